/-
  truth.constant and truth.find: the walks.
-/
import Derived.Test.YtflcbbikfdahhaaDoorBsCJ
import Derived.Test.YtflcbbikfdahhaaDoorBsLJ
import Derived.Test.YtflcbbikfdahhaaDoorMdEv
import Derived.Test.YtflcbbikfdahhaaDoorCmpR
namespace Go.Proofs.YtflcbbikfdahhaaDoor
open Go Go.RowKit
set_option linter.unusedSimpArgs false
set_option linter.unusedVariables false

set_option maxRecDepth 100000 in
set_option maxHeartbeats 16000000 in
theorem cst1_any (c : Con) (x : ByteArray) (w : World) : Calls Tryd.prog 108 #[.agg #[.string c.nm, .int .i64 c.v], .string x] w fun e w' => e = .returned (.int .i64 (cmpS c.nm x)) ∧ Below w.heap.size w w' := by
  have hs := fun W : World => cmpS_any c.nm x W
  obtain ⟨z1, hz1⟩ : ∃ z, cmpS c.nm x = z := ⟨_, rfl⟩
  rw [hz1] at hs ⊢
  clear hz1
  have HS := Lib.hid hs
  clear hs
  go_enter Tryd.func108, Tryd.ntmps108
  go_wp2_with fail
  (with_reducible refine (HS.out _).mono ?_)
  rintro e w3 ⟨rfl, rfl⟩
  go_wp2_with fail
  go_returns
  exact ⟨rfl, by go_grown⟩

theorem hit_lt {α : Type} {f : α → Int} {l : List α} (h : hitN f l = true) : cutN f l < l.length := by
  by_cases h2 : cutN f l < l.length
  · exact h2
  · rw [hitN_end f l h2] at h; cases h

set_option maxRecDepth 100000 in
set_option maxHeartbeats 16000000 in
theorem constant_any (m : Md) (x : ByteArray) (cs : List Value) (w : World) (S : Nat → Prop) (hm : m.In w S cs) (hS : ∀ b, S b → b < w.heap.size) (hg : m.good) :
    Calls Tryd.prog 79 #[.agg cs.toArray, .string x] w fun e w' => e = .returned (.tuple #[.int .i64 ((conV m x).getD 0), .bool (conV m x).isSome]) ∧ Below w.heap.size w w' := by
  obtain ⟨A, c, B, d, rfl, h1, h2, hc, hr⟩ := Md.shape hm
  have hnc := hg.nc
  have hv : conV m x = (if hitN (fun c : Con => cmpS c.nm x) m.cs = true then m.cs[cutN (fun c : Con => cmpS c.nm x) m.cs]? else none).map Con.v := by
    unfold conV; rw [find_cut (Md.con_cut hg x)]
  have hx := fun (W : World) (hb : Below w.heap.size w W) => bc_any m.cs (fun c => cmpS c.nm x) A m.cs.length c (.string x) W S (hc.keep (fun b h => hb.block b (hS b h)) (fun _ h => h)) (fun b h => by have := hS b h; have := hb.size; omega) (by omega) (mono_cut (Md.con_cut hg x)) (fun W2 j hj es hes _ _ => by obtain ⟨rfl, _⟩ := hes; exact cst1_any _ _ _)
  have hlt := @hit_lt _ (fun c : Con => cmpS c.nm x) m.cs
  obtain ⟨k, hk⟩ : ∃ k, cutN (fun c : Con => cmpS c.nm x) m.cs = k := ⟨_, rfl⟩
  obtain ⟨z, hz⟩ : ∃ z, m.sz = z := ⟨_, rfl⟩
  rw [hk] at hx hv hlt
  cases hh : hitN (fun c : Con => cmpS c.nm x) m.cs
  · rw [hh] at hx hv
    rw [hv]
    simp only [Bool.false_eq_true, if_false, Option.map_none, Option.getD_none, Option.isSome_none]
    clear hv hk hlt hh hc hr hm h1 h2
    rw [hz]
    have HX := Lib.hid hx
    have HS := Lib.hid hS
    clear hx hS
    go_enter Tryd.func79, Tryd.ntmps79
    go_wp2_with fail
    (with_reducible refine (HX.out _ (by go_grown)).mono ?_)
    rintro e w1 ⟨rfl, hw1⟩
    go_wp2_with fail
    go_returns
    exact ⟨rfl, ((Below.refl _ w).alloc (Nat.le_refl _) _).trans (hw1.mono (by simp))⟩
  · have hkl := hlt hh
    rw [hh] at hx hv
    rw [List.getElem?_eq_getElem hkl] at hv
    rw [hv]
    simp only [if_true, Option.map_some, Option.getD_some, Option.isSome_some]
    obtain ⟨b, o, rfl, hSb, _, e1, _⟩ := con_at hc hkl
    obtain ⟨v, hv2⟩ : ∃ v, m.cs[k].v = v := ⟨_, rfl⟩
    rw [hv2] at e1 ⊢
    have hbl := hS b hSb
    have q0 : (0 : Int) ≤ (k : Int) := by omega
    have q1 : (k : Int) < (m.cs.length : Int) := by omega
    clear hv hlt hh hc hr hm h1 h2 hv2
    rw [hz]
    have HX := Lib.hid hx
    have HS := Lib.hid hS
    clear hx hS
    go_enter Tryd.func79, Tryd.ntmps79
    go_wp2_with fail
    (with_reducible refine (HX.out _ (by go_grown)).mono ?_)
    rintro e w1 ⟨rfl, hw1⟩
    have p0 := (hw1.block w.heap.size (by simp)).trans (heap_at rfl)
    have x1 := cellv p0 1 rfl
    have c1 := (cell_keep ((hw1.block b (by simp; omega)).trans (heap_old (by omega) rfl)) _).trans e1
    have hs1 := hw1.size
    go_wp2_with fail
    go_returns
    exact ⟨rfl, ((Below.refl _ w).alloc (Nat.le_refl _) _).trans (hw1.mono (by simp))⟩

theorem rel_nm {m : Md} {n : ByteArray} {k : Nat} {x : Rel} (h : relV m n k = some x) : x ∈ m.rs ∧ x.nm = n ∧ x.ar = k := by
  have h1 := List.find?_some h
  simp only [decide_eq_true_eq, cmpR_eq] at h1
  exact ⟨List.mem_of_find?_eq_some h, h1⟩
set_option maxRecDepth 100000 in
set_option maxHeartbeats 16000000 in
theorem find_any (m : Md) (x : ByteArray) (hxs : x.size ≤ maxLen) (q : Nat) (cs : List Value) (w : World) (S : Nat → Prop) (hm : m.In w S cs) (hS : ∀ b, S b → b < w.heap.size) (hg : m.good) :
    Calls Tryd.prog 81 #[.agg cs.toArray, .string x, .int .i64 (q : Nat)] w fun e w' => (∃ p y D9 a9 b9, e = .returned (.tuple #[.agg #[.string p, .int .i64 y, .slice D9 a9 b9], .bool (relV m x q).isSome]) ∧ ∀ r, relV m x q = some r → p = r.nm ∧ y = r.ar ∧ intsRep.Sl w S (.slice D9 a9 b9) r.tp) ∧ Below w.heap.size w w' := by
  obtain ⟨A, c, B, d, rfl, h1, h2, hc, hr⟩ := Md.shape hm
  have hnc := hg.nr
  have hv : relV m x q = if hitN (fun c : Rel => cmpR c ⟨x, q, []⟩) m.rs = true then m.rs[cutN (fun c : Rel => cmpR c ⟨x, q, []⟩) m.rs]? else none := by
    unfold relV; rw [find_cut (Md.rel_cut hg ⟨x, q, []⟩)]
  have hx := fun (W : World) (hb : Below w.heap.size w W) => bl_any m.rs (fun c => cmpR c ⟨x, q, []⟩) B m.rs.length d x q none 0 0 W S (hr.keep (fun b h => hb.block b (hS b h)) (fun _ h => h)) (fun b h => by have := hS b h; have := hb.size; omega) (by omega) (mono_cut (Md.rel_cut hg ⟨x, q, []⟩)) (fun W2 j hj es hes _ _ => by obtain ⟨v9, rfl, _, hv9⟩ := hes; obtain ⟨B9, d9, rfl, _⟩ := hv9.shape; exact cmpR_any m.rs[j] ⟨x, q, []⟩ _ _ W2 rfl rfl)
  have hlt := @hit_lt _ (fun c : Rel => cmpR c ⟨x, q, []⟩) m.rs
  obtain ⟨k, hk⟩ : ∃ k, cutN (fun c : Rel => cmpR c ⟨x, q, []⟩) m.rs = k := ⟨_, rfl⟩
  obtain ⟨z, hz⟩ : ∃ z, m.sz = z := ⟨_, rfl⟩
  rw [hk] at hx hv hlt
  cases hh : hitN (fun c : Rel => cmpR c ⟨x, q, []⟩) m.rs
  · rw [hh] at hx hv
    rw [hv]
    simp only [Bool.false_eq_true, if_false, Option.isSome_none]
    clear hv hk hlt hh hc hr hm h1 h2
    rw [hz]
    have HX := Lib.hid hx
    have HS := Lib.hid hS
    clear hx hS
    go_enter Tryd.func81, Tryd.ntmps81
    go_wp2_with fail
    (with_reducible refine (HX.out _ (by go_grown)).mono ?_)
    rintro e w1 ⟨rfl, hw1⟩
    have p0 := (hw1.block (w.heap.size + 1) (by simp)).trans (heap_at (by simp))
    have hs1 := hw1.size
    have hB : Below w.heap.size w w1 := (show Below w.heap.size w _ by go_grown).trans (hw1.mono (by simp; omega))
    have l1 := lt_heap p0
    have p0_0 := cv0 p0
    have p0_1 := cv1 p0
    have p0_2 := cv2 p0
    have p0_f0 := free_heap p0 0
    have p0_f1 := free_heap p0 1
    have p0_f2 := free_heap p0 2
    have p0_l := lt_heap p0
    have P0 := Lib.hid p0
    clear p0
    go_wp2_with fail
    refine bodyPost_ret (v := .tuple #[.agg #[.string ⟨#[]⟩, .int .i64 0, .slice none 0 0], .bool false]) (by simp [results, Tryd.results81, go_sem, p0_0, p0_1, p0_2, p0_l]) rfl ?_
    exact ⟨⟨_, _, _, _, _, rfl, fun _ h => by cases h⟩, ((hB.setCell (by simp) _).setCell (by simp) _).setCell (by simp) _⟩
  · have hkl := hlt hh
    rw [hh] at hx hv
    rw [List.getElem?_eq_getElem hkl] at hv
    rw [hv]
    simp only [if_true, Option.isSome_some]
    obtain ⟨b, o, Tq, tq, rfl, hSb, e0, e1, e2, _, hl9, hv9⟩ := rel_at hr hkl
    have hfin : ∀ r, some m.rs[k] = some r → m.rs[k].nm = r.nm ∧ m.rs[k].ar = r.ar ∧ intsRep.Sl w S (.slice Tq m.rs[k].tp.length tq) r.tp := by rintro r h; cases h; exact ⟨rfl, rfl, hv9⟩
    obtain ⟨pn, hpn⟩ : ∃ v, m.rs[k].nm = v := ⟨_, rfl⟩
    obtain ⟨pa, hpa⟩ : ∃ v, m.rs[k].ar = v := ⟨_, rfl⟩
    obtain ⟨pt, hpt⟩ : ∃ v, m.rs[k].tp.length = v := ⟨_, rfl⟩
    rw [hpn] at e0 hfin
    rw [hpa] at e1 hfin
    rw [hpt] at e2 hfin
    have hbl := hS b hSb
    have q0 : (0 : Int) ≤ (k : Int) := by omega
    have q1 : (k : Int) < (m.rs.length : Int) := by omega
    clear hv hlt hh hc hr hm h1 h2 hpn hpa hpt hv9 hl9
    rw [hz]
    have HX := Lib.hid hx
    have HS := Lib.hid hS
    have HFIN := Lib.hid hfin
    clear hx hS hfin
    go_enter Tryd.func81, Tryd.ntmps81
    go_wp2_with fail
    (with_reducible refine (HX.out _ (by go_grown)).mono ?_)
    rintro e w1 ⟨rfl, hw1⟩
    have p0 := (hw1.block w.heap.size (by simp; omega)).trans (heap_old (by simp) (heap_at rfl))
    have p1 := (hw1.block (w.heap.size + 1) (by simp)).trans (heap_at (by simp))
    have x1 := cellv p0 2 rfl
    have l1 := lt_heap p1
    have p1_0 := cv0 p1
    have p1_1 := cv1 p1
    have p1_2 := cv2 p1
    have p1_f0 := free_heap p1 0
    have p1_f1 := free_heap p1 1
    have p1_f2 := free_heap p1 2
    have p1_l := lt_heap p1
    have P1 := Lib.hid p1
    clear p1
    have c0 := (cell_keep ((hw1.block b (by simp; omega)).trans (heap_old (by simp; omega) (heap_old (by omega) rfl))) _).trans e0
    have c1 := (cell_keep ((hw1.block b (by simp; omega)).trans (heap_old (by simp; omega) (heap_old (by omega) rfl))) _).trans e1
    have c2 := (cell_keep ((hw1.block b (by simp; omega)).trans (heap_old (by simp; omega) (heap_old (by omega) rfl))) _).trans e2
    have hs1 := hw1.size
    have hB : Below w.heap.size w w1 := (show Below w.heap.size w _ by go_grown).trans (hw1.mono (by simp; omega))
    go_wp2_with fail
    refine bodyPost_ret (v := .tuple #[.agg #[.string pn, .int .i64 pa, .slice Tq pt tq], .bool true]) (by simp [results, Tryd.results81, go_sem, p1_0, p1_1, p1_2, p1_l]) rfl ?_
    exact ⟨⟨_, _, _, _, _, rfl, HFIN.out⟩, ((hB.setCell (by simp) _).setCell (by simp) _).setCell (by simp) _⟩

end Go.Proofs.YtflcbbikfdahhaaDoor
