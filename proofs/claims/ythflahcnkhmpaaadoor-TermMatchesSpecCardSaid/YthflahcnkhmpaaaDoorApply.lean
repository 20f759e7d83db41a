/-
  term.Apply: the walk.
-/
import Derived.Test.YthflahcnkhmpaaaDoorProg
import Derived.Test.YthflahcnkhmpaaaDoorTypeTm
import Derived.Test.YthflahcnkhmpaaaDoorFits
import Derived.Test.YthflahcnkhmpaaaDoorSets
namespace Go.Proofs.YthflahcnkhmpaaaDoor
open Go Go.RowKit
set_option linter.unusedSimpArgs false
set_option linter.unusedVariables false

/-- The zero term. -/
def zTm : Array Value := #[.int .i64 0, .string ⟨#[]⟩, .int .i64 0, .string ⟨#[]⟩, .slice none 0 0, .slice none 0 0]

/-- An application in memory: its parts lie side by side in one block. -/
theorem Tm.app_lit {W : World} {S : Nat → Prop} {f x : Tv} {cs ds : List Value} {blk : Nat} {T : TypeId} {fr : Nat × Nat} (hf : tmRep.R W S f.tm cs) (hx : tmRep.R W S x.tm ds) (hb : W.heap[blk]? = some (.cells (cs ++ ds).toArray T fr)) (hS : S blk) :
    tmRep.R W S (Tv.app f x).tm [.int .i64 4, .string ⟨#[]⟩, .int .i64 0, .string ⟨#[]⟩, .slice none 0 0, .slice (some ⟨blk, 0, none⟩) 2 2] :=
  Tm.shut (a := ⟨4, bNil, 0, noTy⟩) (l := [f.tm, x.tm]) (by decide +kernel) (Ty.In.mk_ (by decide +kernel) rfl (by omega) (by omega))
    ⟨_, 2, 2, rfl, rfl, by simp [maxLen], fun _ => ⟨blk, 0, cs ++ ds, rfl, hS, ⟨cs, ds, rfl, hf, Rep.All.single hx⟩, fun j u hj => by rw [Nat.zero_add]; exact cell_heap hb (by simpa using hj)⟩⟩

/-- What Apply returns for two valid terms. -/
def ApplyRes (f x : Tv) (w w' : World) (e : Ending) : Prop :=
  if (Tv.typ [] (.app f x)).isSome = false then e = .returned (.tuple #[.agg zTm, .agg #[.int .i64 12, .int .i64 (-2)]])
  else if 200 < f.nodes + x.nodes + 1 ∨ 40 < max f.depth x.depth + 1 then e = .returned (.tuple #[.agg zTm, .agg #[.int .i64 1, .int .i64 (-2)]])
  else ∃ ds, e = .returned (.tuple #[.agg ds.toArray, .agg #[.int .i64 0, .int .i64 0]]) ∧ tmRep.R w' (Fresh w w') (Tv.app f x).tm ds

/-- What Apply returns. -/
def ApplyAt (f x : Tm) (w : World) (e : Ending) (w' : World) : Prop :=
  ((tmFault f).1 ≠ 0 → e = .returned (.tuple #[.agg zTm, .agg #[.int .i64 ((tmFault f).1 : Nat), .int .i64 (tmFault f).2]])) ∧
  ((tmFault f).1 = 0 → (tmFault x).1 ≠ 0 → e = .returned (.tuple #[.agg zTm, .agg #[.int .i64 ((tmFault x).1 : Nat), .int .i64 (tmFault x).2]])) ∧
  (∀ vf vx : Tv, f = vf.tm → x = vx.tm → (tmFault f).1 = 0 → (tmFault x).1 = 0 → ApplyRes vf vx w w' e) ∧ Below w.heap.size w w'

set_option maxRecDepth 100000 in
set_option maxHeartbeats 1000000 in
theorem apply_any (f x : Tm) (cs ds : List Value) (w : World) (S : Nat → Prop) (hf : tmRep.R w S f cs) (hx : tmRep.R w S x ds) (hS : ∀ b, S b → b < w.heap.size) :
    Calls Tryd.prog 31 #[.agg cs.toArray, .agg ds.toArray] w (ApplyAt f x w) := by
  obtain ⟨s1, A1, n1, c1, B1, m1, d1, rfl, _, _⟩ := Tm.shape hf
  obtain ⟨s2, A2, n2, c2, B2, m2, d2, rfl, _, _⟩ := Tm.shape hx
  have HF := Lib.hid hf
  have HX := Lib.hid hx
  have HS := Lib.hid hS
  clear hf hx hS
  have hold : ∀ (o p q r : Obj) k, S k → ((((w.alloc o).alloc p).alloc q).alloc r).heap[k]? = w.heap[k]? := fun o p q r k hk => by
    have := HS.out k hk
    exact heap_old (by simp; omega) (heap_old (by simp; omega) (heap_old (by simp; omega) (heap_old this rfl)))
  have hv := fun (o p q r : Obj) => Lib.hid (validateTm_any f [.int .i64 f.lab.kind, .string f.lab.nm, .int .i64 f.lab.ix, .string s1, .slice A1 n1 c1, .slice B1 m1 d1] ((((w.alloc o).alloc p).alloc q).alloc r) S (tmRep.keep HF.out (hold o p q r) (fun _ h => h)) (fun k hk => by have := HS.out k hk; simp; omega))
  have HV := Lib.hid hv
  have HOLD := Lib.hid hold
  clear hv hold
  go_enter Tryd.func31, Tryd.ntmps31
  go_wp2_with fail
  (with_reducible refine (HV.out _ _ _ _).out.mono ?_)
  rintro e w1 ⟨rfl, hw1⟩
  have z1 : w.heap.size + 4 ≤ w1.heap.size := by have := hw1.size; simpa using this
  have h0 := (hw1.block w.heap.size (by simp; omega)).trans (heap_old (by simp <;> omega) (heap_old (by simp <;> omega) (heap_old (by simp) (heap_at rfl))))
  have h1 := (hw1.block (w.heap.size + 1) (by simp <;> omega)).trans (heap_old (by simp <;> omega) (heap_old (by simp) (heap_at (by simp))))
  have h2 := (hw1.block (w.heap.size + 1 + 1) (by simp <;> omega)).trans (heap_old (by simp) (heap_at (by simp)))
  have h3 := (hw1.block (w.heap.size + 1 + 1 + 1) (by simp)).trans (heap_at (by simp))
  have hB : Below w.heap.size w w1 := (show Below w.heap.size w _ by go_grown).trans (hw1.mono (by simp; omega))
  have HB := Lib.hid hB
  have HW1 := Lib.hid hw1
  clear hB hw1
  have h0_0 := cv0 h0
  have h0_1 := cv1 h0
  have h0_2 := cv2 h0
  have h0_3 := cv3 h0
  have h0_4 := cv4 h0
  have h0_5 := cv5 h0
  have h0_l := lt_heap h0
  have H0 := Lib.hid h0
  clear h0
  have h1_0 := cv0 h1
  have h1_1 := cv1 h1
  have h1_2 := cv2 h1
  have h1_3 := cv3 h1
  have h1_4 := cv4 h1
  have h1_5 := cv5 h1
  have h1_l := lt_heap h1
  have H1 := Lib.hid h1
  clear h1
  have h2_0 := cv0 h2
  have h2_1 := cv1 h2
  have h2_2 := cv2 h2
  have h2_3 := cv3 h2
  have h2_4 := cv4 h2
  have h2_5 := cv5 h2
  have h2_f0 := free_heap h2 0
  have h2_f1 := free_heap h2 1
  have h2_f2 := free_heap h2 2
  have h2_f3 := free_heap h2 3
  have h2_f4 := free_heap h2 4
  have h2_f5 := free_heap h2 5
  have h2_l := lt_heap h2
  have H2 := Lib.hid h2
  clear h2
  have h3_0 := cv0 h3
  have h3_1 := cv1 h3
  have h3_f0 := free_heap h3 0
  have h3_f1 := free_heap h3 1
  have h3_l := lt_heap h3
  have H3 := Lib.hid h3
  clear h3
  by_cases hz : (tmFault f).1 = 0
  case neg =>
    have t1 : (((tmFault f).1 : Int) != 0) = true := bne_iff_ne.2 (by omega)
    have HZ := Lib.hid hz
    clear hz
    go_wp2_with fail
    go_region
    all_goals
      refine gen_last (fun wx => Below w.heap.size w wx ∧ wx.heap[w.heap.size + 1 + 1]? = some (.cells zTm 49 (0, 0)) ∧ wx.heap[w.heap.size + 1 + 1 + 1]? = some (.cells #[.int .i64 (tmFault f).1, .int .i64 (tmFault f).2] 26 (0, 0))) ?_ ?_
      · refine ⟨?_, ?_, ?_⟩
        · exact (((below2 (below6 HB.out (by omega)) (by omega)).alloc (le2 (le6 (by omega))) _).drew)
        · exact heap_drew (heap_old (lt2 (lt6 (by omega))) (far2 (by omega) (at6 H2.out)))
        · exact heap_drew (heap_old (lt2 (lt6 (by omega))) (at2 (far6 (by omega) H3.out)))
      rintro wx ⟨hb, k2, k3⟩
      have hfin : ApplyAt f x w (.returned (.tuple #[.agg zTm, .agg #[.int .i64 (tmFault f).1, .int .i64 (tmFault f).2]])) wx := ⟨fun _ => rfl, fun h => absurd h HZ.out, fun _ _ _ _ h => absurd h HZ.out, hb⟩
      clear h0_0 h0_1 h0_2 h0_3 h0_4 h0_5 h1_0 h1_1 h1_2 h1_3 h1_4 h1_5 h2_0 h2_1 h2_2 h2_3 h2_4 h2_5 h2_f0 h2_f1 h2_f2 h2_f3 h2_f4 h2_f5 h3_0 h3_1 h3_f0 h3_f1 t1
      unfold zTm at k2
      have HFIN := Lib.hid hfin
      have HB := Lib.hid hb
      clear hfin hb
      have k2_0 := cv0 k2
      have k2_1 := cv1 k2
      have k2_2 := cv2 k2
      have k2_3 := cv3 k2
      have k2_4 := cv4 k2
      have k2_5 := cv5 k2
      have k2_l := lt_heap k2
      have K2 := Lib.hid k2
      clear k2
      have k3_0 := cv0 k3
      have k3_1 := cv1 k3
      have k3_l := lt_heap k3
      have K3 := Lib.hid k3
      clear k3
      go_wp2_with fail
      refine bodyPost_ret (v := .tuple #[.agg #[.int .i64 0, .string ⟨#[]⟩, .int .i64 0, .string ⟨#[]⟩, .slice none 0 0, .slice none 0 0], .agg #[.int .i64 (tmFault f).1, .int .i64 (tmFault f).2]]) (by simp [results, Tryd.results31, go_sem, k2_0, k2_1, k2_2, k2_3, k2_4, k2_5, k3_0, k3_1, k2_l, k3_l]) rfl ?_
      exact HFIN.out
  obtain ⟨vf, sf, rfl, of, nf, df, tf, ef⟩ := tmFault_zero hz
  have t1 : (((tmFault vf.tm).1 : Int) != 0) = false := by rw [hz]; rfl
  have hold1 : ∀ (o : Obj) k, S k → (w1.alloc o).heap[k]? = w.heap[k]? := fun o k hk => by
    have := HS.out k hk
    exact heap_old (by omega) (HB.out.block k this)
  have hv2 := fun (o : Obj) => Lib.hid (validateTm_any x [.int .i64 x.lab.kind, .string x.lab.nm, .int .i64 x.lab.ix, .string s2, .slice A2 n2 c2, .slice B2 m2 d2] (w1.alloc o) S (tmRep.keep HX.out (hold1 o) (fun _ h => h)) (fun k hk => by have := HS.out k hk; simp; omega))
  have HZ := Lib.hid hz
  have HEF := Lib.hid ef
  have HOF := Lib.hid of
  have HTF := Lib.hid tf
  clear hz ef of tf
  have HV2 := Lib.hid hv2
  have HOLD1 := Lib.hid hold1
  clear hv2 hold1
  go_wp2_with fail
  (with_reducible refine (HV2.out _).out.mono ?_)
  rintro e w2 ⟨rfl, hw2⟩
  have z2 : w1.heap.size + 1 ≤ w2.heap.size := by have := hw2.size; simpa using this
  have h0 := (hw2.block w.heap.size (by simp; omega)).trans (heap_old h0_l H0.out)
  have h1 := (hw2.block (w.heap.size + 1) (by simp; omega)).trans (heap_old h1_l H1.out)
  have h2 := (hw2.block (w.heap.size + 1 + 1) (by simp; omega)).trans (heap_old h2_l H2.out)
  have h3 := (hw2.block (w.heap.size + 1 + 1 + 1) (by simp; omega)).trans (heap_old h3_l H3.out)
  have hB2 := (HB.out.alloc (by omega) (.cells #[.int .i64 (tmFault vf.tm).1, .int .i64 (tmFault vf.tm).2] 26)).trans (hw2.mono (by simp; omega))
  clear h0_0 h0_1 h0_2 h0_3 h0_4 h0_5 h1_0 h1_1 h1_2 h1_3 h1_4 h1_5 h2_0 h2_1 h2_2 h2_3 h2_4 h2_5 h2_f0 h2_f1 h2_f2 h2_f3 h2_f4 h2_f5 h3_0 h3_1 h3_f0 h3_f1 h0_l h1_l h2_l h3_l t1
  have HB2 := Lib.hid hB2
  have HW2 := Lib.hid hw2
  clear hB2 hw2
  have h0_0 := cv0 h0
  have h0_1 := cv1 h0
  have h0_2 := cv2 h0
  have h0_3 := cv3 h0
  have h0_4 := cv4 h0
  have h0_5 := cv5 h0
  have h0_l := lt_heap h0
  have H0 := Lib.hid h0
  clear h0
  have h1_0 := cv0 h1
  have h1_1 := cv1 h1
  have h1_2 := cv2 h1
  have h1_3 := cv3 h1
  have h1_4 := cv4 h1
  have h1_5 := cv5 h1
  have h1_l := lt_heap h1
  have H1 := Lib.hid h1
  clear h1
  have h2_0 := cv0 h2
  have h2_1 := cv1 h2
  have h2_2 := cv2 h2
  have h2_3 := cv3 h2
  have h2_4 := cv4 h2
  have h2_5 := cv5 h2
  have h2_f0 := free_heap h2 0
  have h2_f1 := free_heap h2 1
  have h2_f2 := free_heap h2 2
  have h2_f3 := free_heap h2 3
  have h2_f4 := free_heap h2 4
  have h2_f5 := free_heap h2 5
  have h2_l := lt_heap h2
  have H2 := Lib.hid h2
  clear h2
  have h3_0 := cv0 h3
  have h3_1 := cv1 h3
  have h3_f0 := free_heap h3 0
  have h3_f1 := free_heap h3 1
  have h3_l := lt_heap h3
  have H3 := Lib.hid h3
  clear h3
  by_cases hz : (tmFault x).1 = 0
  case neg =>
    have t1 : (((tmFault x).1 : Int) != 0) = true := bne_iff_ne.2 (by omega)
    have HZX := Lib.hid hz
    clear hz
    go_wp2_with fail
    go_region
    all_goals
      refine gen_last (fun wx => Below w.heap.size w wx ∧ wx.heap[w.heap.size + 1 + 1]? = some (.cells zTm 49 (0, 0)) ∧ wx.heap[w.heap.size + 1 + 1 + 1]? = some (.cells #[.int .i64 (tmFault x).1, .int .i64 (tmFault x).2] 26 (0, 0))) ?_ ?_
      · refine ⟨?_, ?_, ?_⟩
        · exact (((below2 (below6 HB2.out (by omega)) (by omega)).alloc (le2 (le6 (by omega))) _).drew)
        · exact heap_drew (heap_old (lt2 (lt6 (by omega))) (far2 (by omega) (at6 H2.out)))
        · exact heap_drew (heap_old (lt2 (lt6 (by omega))) (at2 (far6 (by omega) H3.out)))
      rintro wx ⟨hb, k2, k3⟩
      have hfin : ApplyAt vf.tm x w (.returned (.tuple #[.agg zTm, .agg #[.int .i64 (tmFault x).1, .int .i64 (tmFault x).2]])) wx := ⟨fun h => absurd HZ.out h, fun _ _ => rfl, fun _ _ _ _ _ h => absurd h HZX.out, hb⟩
      clear h0_0 h0_1 h0_2 h0_3 h0_4 h0_5 h1_0 h1_1 h1_2 h1_3 h1_4 h1_5 h2_0 h2_1 h2_2 h2_3 h2_4 h2_5 h2_f0 h2_f1 h2_f2 h2_f3 h2_f4 h2_f5 h3_0 h3_1 h3_f0 h3_f1 t1
      unfold zTm at k2
      have HFIN := Lib.hid hfin
      have HB := Lib.hid hb
      clear hfin hb
      have k2_0 := cv0 k2
      have k2_1 := cv1 k2
      have k2_2 := cv2 k2
      have k2_3 := cv3 k2
      have k2_4 := cv4 k2
      have k2_5 := cv5 k2
      have k2_l := lt_heap k2
      have K2 := Lib.hid k2
      clear k2
      have k3_0 := cv0 k3
      have k3_1 := cv1 k3
      have k3_l := lt_heap k3
      have K3 := Lib.hid k3
      clear k3
      go_wp2_with fail
      refine bodyPost_ret (v := .tuple #[.agg #[.int .i64 0, .string ⟨#[]⟩, .int .i64 0, .string ⟨#[]⟩, .slice none 0 0, .slice none 0 0], .agg #[.int .i64 (tmFault x).1, .int .i64 (tmFault x).2]]) (by simp [results, Tryd.results31, go_sem, k2_0, k2_1, k2_2, k2_3, k2_4, k2_5, k3_0, k3_1, k2_l, k3_l]) rfl ?_
      exact HFIN.out
  obtain ⟨vx, sx, rfl, ox, nx, dx, tx, ex⟩ := tmFault_zero hz
  have t1 : (((tmFault vx.tm).1 : Int) != 0) = false := by rw [hz]; rfl
  have hB2' : ∀ k, S k → w2.heap[k]? = w.heap[k]? := fun k hk => HB2.out.block k (HS.out k hk)
  have hSw : ∀ k, S k → k < w2.heap.size := fun k hk => by have := HS.out k hk; omega
  have happ : ∀ (o p : Obj), tmRep.R (((w2.alloc o).alloc (.cells #[.int .i64 vf.tm.lab.kind, .string vf.tm.lab.nm, .int .i64 vf.tm.lab.ix, .string s1, .slice A1 n1 c1, .slice B1 m1 d1, .int .i64 vx.tm.lab.kind, .string vx.tm.lab.nm, .int .i64 vx.tm.lab.ix, .string s2, .slice A2 n2 c2, .slice B2 m2 d2] 49)).alloc p) (fun b => b < w2.heap.size + 1 + 1) (Tv.app vf vx).tm [.int .i64 4, .string ⟨#[]⟩, .int .i64 0, .string ⟨#[]⟩, .slice none 0 0, .slice (some ⟨w2.heap.size + 1, 0, none⟩) 2 2] := fun o p =>
    Tm.app_lit (cs := [.int .i64 vf.tm.lab.kind, .string vf.tm.lab.nm, .int .i64 vf.tm.lab.ix, .string s1, .slice A1 n1 c1, .slice B1 m1 d1]) (ds := [.int .i64 vx.tm.lab.kind, .string vx.tm.lab.nm, .int .i64 vx.tm.lab.ix, .string s2, .slice A2 n2 c2, .slice B2 m2 d2]) (tmRep.keep HF.out (fun k hk => heap_old (by have := hSw k hk; simp; omega) (heap_old (by have := hSw k hk; simp; omega) (heap_old (hSw k hk) (hB2' k hk)))) (fun k hk => by have := hSw k hk; omega)) (tmRep.keep HX.out (fun k hk => heap_old (by have := hSw k hk; simp; omega) (heap_old (by have := hSw k hk; simp; omega) (heap_old (hSw k hk) (hB2' k hk)))) (fun k hk => by have := hSw k hk; omega)) (heap_old (by simp) (heap_at (by simp))) (by omega)
  have HZX := Lib.hid hz
  have HEX := Lib.hid ex
  have hokA : (Tv.app vf vx).ok 0 := ⟨HOF.out, ox⟩
  have htyp := fun (o p : Obj) => Lib.hid (typed_any (.app vf vx) [] _ (.slice none 0 0) _ _ hokA (by simp [Tv.depth]; omega) (happ o p) Ctx.nil (fun k hk => by simp; omega))
  clear hz ex ox tx
  have HAPP := Lib.hid happ
  have HTYP := Lib.hid htyp
  have HOKA := Lib.hid hokA
  have HSW := Lib.hid hSw
  have HB2P := Lib.hid hB2'
  clear happ htyp hokA hSw hB2'
  go_wp2_with fail
  (with_reducible refine (HTYP.out _ _).out.mono ?_)
  rintro e w3 ⟨⟨v0, v1, ok, T, rfl, hT, hr⟩, hw3⟩
  obtain ⟨sT, AT, nT, cT, rfl, rfl⟩ := hT.shape
  have z3 : w2.heap.size + 3 ≤ w3.heap.size := by have := hw3.size; simpa using this
  have h2 := (hw3.block (w.heap.size + 1 + 1) (by simp; omega)).trans (heap_old (by simp; omega) (heap_old (by simp; omega) (heap_old h2_l H2.out)))
  have h3 := (hw3.block (w.heap.size + 1 + 1 + 1) (by simp; omega)).trans (heap_old (by simp; omega) (heap_old (by simp; omega) (heap_old h3_l H3.out)))
  have h8 := (hw3.block (w2.heap.size + 1 + 1) (by simp)).trans (heap_at (by simp))
  have happ3 : tmRep.R w3 (fun b => b < w2.heap.size + 1 + 1) (Tv.app vf vx).tm _ := tmRep.keep (HAPP.out _ _) (fun k hk => hw3.block k (by simp; omega)) (fun _ h => h)
  have hB3 : Below w.heap.size w w3 := (((HB2.out.alloc (by omega) _).alloc (by simp; omega) _).alloc (by simp; omega) _).trans (hw3.mono (by simp; omega))
  have hfit := fun (o : Obj) => Lib.hid (fits_any (Tv.app vf vx).tm _ (w3.alloc o) _ (tmRep.keep happ3 (fun k hk => heap_old (by omega) rfl) (fun _ h => h)) (fun k hk => by simp; omega) (by rw [Tv.tm_nodes]; simp only [Tv.nodes]; omega))
  clear h0_0 h0_1 h0_2 h0_3 h0_4 h0_5 h1_0 h1_1 h1_2 h1_3 h1_4 h1_5 h2_0 h2_1 h2_2 h2_3 h2_4 h2_5 h2_f0 h2_f1 h2_f2 h2_f3 h2_f4 h2_f5 h3_0 h3_1 h3_f0 h3_f1 h0_l h1_l h2_l h3_l t1
  have HT := Lib.hid hT
  have HW3 := Lib.hid hw3
  have HAPP3 := Lib.hid happ3
  have HB3 := Lib.hid hB3
  have HFIT := Lib.hid hfit
  clear hT hw3 happ3 hB3 hfit
  have h2_0 := cv0 h2
  have h2_1 := cv1 h2
  have h2_2 := cv2 h2
  have h2_3 := cv3 h2
  have h2_4 := cv4 h2
  have h2_5 := cv5 h2
  have h2_f0 := free_heap h2 0
  have h2_f1 := free_heap h2 1
  have h2_f2 := free_heap h2 2
  have h2_f3 := free_heap h2 3
  have h2_f4 := free_heap h2 4
  have h2_f5 := free_heap h2 5
  have h2_l := lt_heap h2
  have H2 := Lib.hid h2
  clear h2
  have h3_0 := cv0 h3
  have h3_1 := cv1 h3
  have h3_f0 := free_heap h3 0
  have h3_f1 := free_heap h3 1
  have h3_l := lt_heap h3
  have H3 := Lib.hid h3
  clear h3
  have h8_0 := cv0 h8
  have h8_1 := cv1 h8
  have h8_2 := cv2 h8
  have h8_3 := cv3 h8
  have h8_4 := cv4 h8
  have h8_5 := cv5 h8
  have h8_l := lt_heap h8
  have H8 := Lib.hid h8
  clear h8
  cases hs : Tv.typ [] (.app vf vx) with
  | none =>
    rw [hs] at hr
    simp only at hr
    subst hr
    have HS0 := Lib.hid hs
    clear hs
    go_upto_region 10 with (fail)
    go_cut [] (fun wx => Below w.heap.size w wx ∧ wx.heap[w.heap.size + 1 + 1]? = some (.cells zTm 49 (0, 0)) ∧ wx.heap[w.heap.size + 1 + 1 + 1]? = some (.cells #[.int .i64 12, .int .i64 (-2)] 26 (0, 0)))
    case first =>
      go_wp2_with fail
      go_meet
      refine ⟨?_, ?_, ?_⟩
      · exact (below2 (below6 HB3.out (by omega)) (by omega)).alloc (le2 (le6 (by omega))) _
      · exact heap_old (lt2 (lt6 (by omega))) (far2 (by omega) (at6 H2.out))
      · exact heap_old (lt2 (lt6 (by omega))) (at2 (far6 (by omega) H3.out))
    case rest =>
      obtain ⟨hb, k2, k3⟩ := hcut
      rename World => wx
      have hfin : ApplyAt vf.tm vx.tm w (.returned (.tuple #[.agg zTm, .agg #[.int .i64 12, .int .i64 (-2)]])) wx := by
        refine ⟨fun h => absurd HZ.out h, fun _ h => absurd HZX.out h, fun vf' vx' e1 e2 _ _ => ?_, hb⟩
        obtain rfl := Tv.tm_inj _ _ e1
        obtain rfl := Tv.tm_inj _ _ e2
        unfold ApplyRes
        rw [HS0.out, if_pos (by rfl)]
      clear h2_0 h2_1 h2_2 h2_3 h2_4 h2_5 h2_f0 h2_f1 h2_f2 h2_f3 h2_f4 h2_f5 h3_0 h3_1 h3_f0 h3_f1
      unfold zTm at k2
      have HFIN := Lib.hid hfin
      have HB := Lib.hid hb
      clear hfin hb
      have k2_0 := cv0 k2
      have k2_1 := cv1 k2
      have k2_2 := cv2 k2
      have k2_3 := cv3 k2
      have k2_4 := cv4 k2
      have k2_5 := cv5 k2
      have k2_l := lt_heap k2
      have K2 := Lib.hid k2
      clear k2
      have k3_0 := cv0 k3
      have k3_1 := cv1 k3
      have k3_l := lt_heap k3
      have K3 := Lib.hid k3
      clear k3
      go_wp2_with fail
      refine bodyPost_ret (v := .tuple #[.agg #[.int .i64 0, .string ⟨#[]⟩, .int .i64 0, .string ⟨#[]⟩, .slice none 0 0, .slice none 0 0], .agg #[.int .i64 12, .int .i64 (-2)]]) (by simp [results, Tryd.results31, go_sem, k2_0, k2_1, k2_2, k2_3, k2_4, k2_5, k3_0, k3_1, k2_l, k3_l]) rfl ?_
      exact HFIN.out
  | some s =>
    rw [hs] at hr
    simp only at hr
    obtain ⟨rfl, rfl⟩ := hr
    have HS0 := Lib.hid hs
    clear hs
    go_wp2_with fail
    (with_reducible refine (HFIT.out _).out.mono ?_)
    rintro e w4 ⟨rfl, hw4⟩
    have z4 : w3.heap.size + 1 ≤ w4.heap.size := by have := hw4.size; simpa using this
    have h2 := (hw4.block (w.heap.size + 1 + 1) (by simp; omega)).trans (heap_old h2_l H2.out)
    have h3 := (hw4.block (w.heap.size + 1 + 1 + 1) (by simp; omega)).trans (heap_old h3_l H3.out)
    have h8 := (hw4.block (w2.heap.size + 1 + 1) (by simp; omega)).trans (heap_old h8_l H8.out)
    have hB4 : Below w.heap.size w w4 := (HB3.out.alloc (by omega) (.cells #[.string sT, .slice AT nT cT] 24)).trans (hw4.mono (by simp; omega))
    have happ4 : tmRep.R w4 (fun b => b < w2.heap.size + 1 + 1) (Tv.app vf vx).tm _ := tmRep.keep HAPP3.out (fun k hk => (hw4.block k (by simp; omega)).trans (heap_old (by omega) rfl)) (fun _ h => h)
    have hcl := Lib.hid (cloneTm_any _ (.app vf vx) _ w4 _ (Nat.le_refl _) happ4 (fun k hk => by omega))
    clear h2_0 h2_1 h2_2 h2_3 h2_4 h2_5 h2_f0 h2_f1 h2_f2 h2_f3 h2_f4 h2_f5 h3_0 h3_1 h3_f0 h3_f1 h2_l h3_l h8_0 h8_1 h8_2 h8_3 h8_4 h8_5 h8_l
    have HW4 := Lib.hid hw4
    have HB4 := Lib.hid hB4
    have HAPP4 := Lib.hid happ4
    have HCL := Lib.hid hcl
    clear hw4 hB4 happ4 hcl
    have h2_0 := cv0 h2
    have h2_1 := cv1 h2
    have h2_2 := cv2 h2
    have h2_3 := cv3 h2
    have h2_4 := cv4 h2
    have h2_5 := cv5 h2
    have h2_f0 := free_heap h2 0
    have h2_f1 := free_heap h2 1
    have h2_f2 := free_heap h2 2
    have h2_f3 := free_heap h2 3
    have h2_f4 := free_heap h2 4
    have h2_f5 := free_heap h2 5
    have h2_l := lt_heap h2
    have H2 := Lib.hid h2
    clear h2
    have h3_0 := cv0 h3
    have h3_1 := cv1 h3
    have h3_f0 := free_heap h3 0
    have h3_f1 := free_heap h3 1
    have h3_l := lt_heap h3
    have H3 := Lib.hid h3
    clear h3
    have h8_0 := cv0 h8
    have h8_1 := cv1 h8
    have h8_2 := cv2 h8
    have h8_3 := cv3 h8
    have h8_4 := cv4 h8
    have h8_5 := cv5 h8
    have h8_l := lt_heap h8
    have H8 := Lib.hid h8
    clear h8
    by_cases hq : (Tv.app vf vx).tm.nodes ≤ 200 ∧ (Tv.app vf vx).tm.depth ≤ 40
    case neg =>
      have hq2 : (decide ((Tv.app vf vx).tm.nodes ≤ 200) && decide ((Tv.app vf vx).tm.depth ≤ 40)) = false := by
        by_cases h1 : (Tv.app vf vx).tm.nodes ≤ 200
        · have h2 : ¬ (Tv.app vf vx).tm.depth ≤ 40 := fun h => hq ⟨h1, h⟩
          simp [h2]
        · simp [h1]
      rw [hq2]
      have HQ := Lib.hid hq
      clear hq hq2
      go_upto_region 12 with (fail)
      go_cut [] (fun wx => Below w.heap.size w wx ∧ wx.heap[w.heap.size + 1 + 1]? = some (.cells zTm 49 (0, 0)) ∧ wx.heap[w.heap.size + 1 + 1 + 1]? = some (.cells #[.int .i64 1, .int .i64 (-2)] 26 (0, 0)))
      case first =>
        go_wp2_with fail
        go_meet
        refine ⟨?_, ?_, ?_⟩
        · exact below2 (below6 HB4.out (by omega)) (by omega)
        · exact far2 (by omega) (at6 H2.out)
        · exact at2 (far6 (by omega) H3.out)
      case rest =>
        obtain ⟨hb, k2, k3⟩ := hcut
        rename World => wx
        have hfin : ApplyAt vf.tm vx.tm w (.returned (.tuple #[.agg zTm, .agg #[.int .i64 1, .int .i64 (-2)]])) wx := by
          refine ⟨fun h => absurd HZ.out h, fun _ h => absurd HZX.out h, fun vf' vx' e1 e2 _ _ => ?_, hb⟩
          obtain rfl := Tv.tm_inj _ _ e1
          obtain rfl := Tv.tm_inj _ _ e2
          unfold ApplyRes
          rw [HS0.out, if_neg (by simp), if_pos]
          have := HQ.out
          rw [Tv.tm_nodes, Tv.tm_depth] at this
          simp only [Tv.nodes, Tv.depth] at this
          omega
        clear h2_0 h2_1 h2_2 h2_3 h2_4 h2_5 h2_f0 h2_f1 h2_f2 h2_f3 h2_f4 h2_f5 h3_0 h3_1 h3_f0 h3_f1
        unfold zTm at k2
        have HFIN := Lib.hid hfin
        have HB := Lib.hid hb
        clear hfin hb
        have k2_0 := cv0 k2
        have k2_1 := cv1 k2
        have k2_2 := cv2 k2
        have k2_3 := cv3 k2
        have k2_4 := cv4 k2
        have k2_5 := cv5 k2
        have k2_l := lt_heap k2
        have K2 := Lib.hid k2
        clear k2
        have k3_0 := cv0 k3
        have k3_1 := cv1 k3
        have k3_l := lt_heap k3
        have K3 := Lib.hid k3
        clear k3
        go_wp2_with fail
        refine bodyPost_ret (v := .tuple #[.agg #[.int .i64 0, .string ⟨#[]⟩, .int .i64 0, .string ⟨#[]⟩, .slice none 0 0, .slice none 0 0], .agg #[.int .i64 1, .int .i64 (-2)]]) (by simp [results, Tryd.results31, go_sem, k2_0, k2_1, k2_2, k2_3, k2_4, k2_5, k3_0, k3_1, k2_l, k3_l]) rfl ?_
        exact HFIN.out
    have hq2 : (decide ((Tv.app vf vx).tm.nodes ≤ 200) && decide ((Tv.app vf vx).tm.depth ≤ 40)) = true := by simp [hq.1, hq.2]
    rw [hq2]
    have HQ := Lib.hid hq
    clear hq hq2
    go_upto_region 13 with (fail)
    go_cut [] (fun wx => ∃ es : List Value, tmRep.R wx (Fresh w wx) (Tv.app vf vx).tm es ∧ wx.heap[w.heap.size + 1 + 1]? = some (.cells es.toArray 49 (0, 0)) ∧ wx.heap[w.heap.size + 1 + 1 + 1]? = some (.cells #[.int .i64 0, .int .i64 0] 26 (0, 0)) ∧ Below w.heap.size w wx)
    case first =>
      go_wp2_with fail
      (with_reducible refine HCL.out.out.mono ?_)
      rintro e w5 ⟨es, rfl, hu, hw5⟩
      obtain ⟨s5, A5, n5, c5, B5, m5, d5, rfl, _, _⟩ := Tm.shape hu
      have z5 : w4.heap.size ≤ w5.heap.size := hw5.size
      have h2 := (hw5.block (w.heap.size + 1 + 1) (by omega)).trans H2.out
      have h3 := (hw5.block (w.heap.size + 1 + 1 + 1) (by omega)).trans H3.out
      clear h2_0 h2_1 h2_2 h2_3 h2_4 h2_5 h2_f0 h2_f1 h2_f2 h2_f3 h2_f4 h2_f5 h3_0 h3_1 h3_f0 h3_f1 h2_l h3_l h8_0 h8_1 h8_2 h8_3 h8_4 h8_5 h8_l
      have hB5 : Below w.heap.size w w5 := HB4.out.trans (hw5.mono (by omega))
      have HU := Lib.hid hu
      have HW5 := Lib.hid hw5
      have HB5 := Lib.hid hB5
      clear hu hw5 hB5
      have h2_0 := cv0 h2
      have h2_1 := cv1 h2
      have h2_2 := cv2 h2
      have h2_3 := cv3 h2
      have h2_4 := cv4 h2
      have h2_5 := cv5 h2
      have h2_f0 := free_heap h2 0
      have h2_f1 := free_heap h2 1
      have h2_f2 := free_heap h2 2
      have h2_f3 := free_heap h2 3
      have h2_f4 := free_heap h2 4
      have h2_f5 := free_heap h2 5
      have h2_l := lt_heap h2
      have H2 := Lib.hid h2
      clear h2
      have h3_0 := cv0 h3
      have h3_1 := cv1 h3
      have h3_f0 := free_heap h3 0
      have h3_f1 := free_heap h3 1
      have h3_l := lt_heap h3
      have H3 := Lib.hid h3
      clear h3
      go_wp2_with fail
      go_meet
      refine ⟨[.int .i64 (Tv.app vf vx).tm.lab.kind, .string (Tv.app vf vx).tm.lab.nm, .int .i64 (Tv.app vf vx).tm.lab.ix, .string s5, .slice A5 n5 c5, .slice B5 m5 d5], ?_, far2 (by omega) (at6 H2.out), at2 (far6 (by omega) H3.out), below2 (below6 HB5.out (by omega)) (by omega)⟩
      exact tmRep.keep HU.out (fun k hk => far2 (by have := hk.1; omega) (far6 (by have := hk.1; omega) rfl)) (fun k hk => ⟨by have := hk.1; omega, lt2 (lt6 hk.2)⟩)
    case rest =>
      obtain ⟨es, hu, k2, k3, hb⟩ := hcut
      rename World => wx
      obtain ⟨s5, A5, n5, c5, B5, m5, d5, rfl, _, _⟩ := Tm.shape hu
      have hfin : ApplyAt vf.tm vx.tm w (.returned (.tuple #[.agg ([.int .i64 (Tv.app vf vx).tm.lab.kind, .string (Tv.app vf vx).tm.lab.nm, .int .i64 (Tv.app vf vx).tm.lab.ix, .string s5, .slice A5 n5 c5, .slice B5 m5 d5]).toArray, .agg #[.int .i64 0, .int .i64 0]])) wx := by
        refine ⟨fun h => absurd HZ.out h, fun _ h => absurd HZX.out h, fun vf' vx' e1 e2 _ _ => ?_, hb⟩
        obtain rfl := Tv.tm_inj _ _ e1
        obtain rfl := Tv.tm_inj _ _ e2
        have hq := HQ.out
        rw [Tv.tm_nodes, Tv.tm_depth] at hq
        simp only [Tv.nodes, Tv.depth] at hq
        unfold ApplyRes
        rw [HS0.out, if_neg (by simp), if_neg (by omega)]
        exact ⟨_, rfl, hu⟩
      clear h2_0 h2_1 h2_2 h2_3 h2_4 h2_5 h2_f0 h2_f1 h2_f2 h2_f3 h2_f4 h2_f5 h3_0 h3_1 h3_f0 h3_f1 h8_0 h8_1 h8_2 h8_3 h8_4 h8_5
      have HFIN := Lib.hid hfin
      have HB := Lib.hid hb
      have HU := Lib.hid hu
      clear hfin hb hu
      have k2_0 := cv0 k2
      have k2_1 := cv1 k2
      have k2_2 := cv2 k2
      have k2_3 := cv3 k2
      have k2_4 := cv4 k2
      have k2_5 := cv5 k2
      have k2_l := lt_heap k2
      have K2 := Lib.hid k2
      clear k2
      have k3_0 := cv0 k3
      have k3_1 := cv1 k3
      have k3_l := lt_heap k3
      have K3 := Lib.hid k3
      clear k3
      go_wp2_with fail
      refine bodyPost_ret (v := .tuple #[.agg #[.int .i64 (Tv.app vf vx).tm.lab.kind, .string (Tv.app vf vx).tm.lab.nm, .int .i64 (Tv.app vf vx).tm.lab.ix, .string s5, .slice A5 n5 c5, .slice B5 m5 d5], .agg #[.int .i64 0, .int .i64 0]]) (by simp [results, Tryd.results31, go_sem, k2_0, k2_1, k2_2, k2_3, k2_4, k2_5, k3_0, k3_1, k2_l, k3_l]) rfl ?_
      exact HFIN.out

end Go.Proofs.YthflahcnkhmpaaaDoor
