/-
  The reference's typed (the type of a named term): the walk.
-/
import Derived.Test.YthflahcnkhmpaabDoorProg
import Derived.Test.YthflahcnkhmpaabDoorKnown
import Derived.Test.YthflahcnkhmpaabDoorNmSize
import Derived.Test.YthflahcnkhmpaabDoorSimple
import Derived.Test.YthflahcnkhmpaabDoorSyIn
import Derived.Deep.QuietTactic
import Derived.BigQuiet
import Derived.Test.YthflahcnkhmpaabDoorLongRef
import Derived.Deep.DeepCutAuto
import Derived.Test.YthflahcnkhmpaabDoorExpand
namespace Go.Proofs.YthflahcnkhmpaabDoor
open Go Go.RowKit
set_option linter.unusedSimpArgs false
set_option linter.unusedVariables false

theorem infoKnown : (Tryd.prog.info? 99).map (fun i => (i.zero, i.size, i.bytes)) = some (some (.agg #[.int .i64 0, .string ⟨#[]⟩, .slice none 0 0]), 3, 48) := by kernel_rfl
theorem run_field_args : ∀ (w : World) (s : ByteArray) (A : Option Addr) (n c : Nat), (Instr.field 24 (.agg #[.string s, .slice A n c]) 1).run Tryd.prog w = .ok (.slice A n c) w := fun _ _ _ _ _ => by kernel_rfl
theorem keepN6 {W V : World} {k : Nat} {y0 y1 y2 y3 y4 y5 : Value} (h4 : W.heap[k]? = V.heap[k]?)
    (h : V.cell? ⟨k, 0, none⟩ = some y0 ∧ V.cell? ⟨k, 1, none⟩ = some y1 ∧ V.cell? ⟨k, 2, none⟩ = some y2 ∧ V.cell? ⟨k, 3, none⟩ = some y3 ∧ V.cell? ⟨k, 4, none⟩ = some y4 ∧ V.cell? ⟨k, 5, none⟩ = some y5) :
    W.cell? ⟨k, 0, none⟩ = some y0 ∧ W.cell? ⟨k, 1, none⟩ = some y1 ∧ W.cell? ⟨k, 2, none⟩ = some y2 ∧ W.cell? ⟨k, 3, none⟩ = some y3 ∧ W.cell? ⟨k, 4, none⟩ = some y4 ∧ W.cell? ⟨k, 5, none⟩ = some y5 := by
  obtain ⟨b0, b1, b2, b3, b4, b5⟩ := h
  exact ⟨(cell_keep h4 _).trans b0, (cell_keep h4 _).trans b1, (cell_keep h4 _).trans b2, (cell_keep h4 _).trans b3, (cell_keep h4 _).trans b4, (cell_keep h4 _).trans b5⟩
theorem keepN6o {W V : World} {k o : Nat} {y0 y1 y2 y3 y4 y5 : Value} (h4 : W.heap[k]? = V.heap[k]?)
    (h : V.cell? ⟨k, o, none⟩ = some y0 ∧ V.cell? ⟨k, o + 1, none⟩ = some y1 ∧ V.cell? ⟨k, o + 2, none⟩ = some y2 ∧ V.cell? ⟨k, o + 3, none⟩ = some y3 ∧ V.cell? ⟨k, o + 4, none⟩ = some y4 ∧ V.cell? ⟨k, o + 5, none⟩ = some y5) :
    W.cell? ⟨k, o, none⟩ = some y0 ∧ W.cell? ⟨k, o + 1, none⟩ = some y1 ∧ W.cell? ⟨k, o + 2, none⟩ = some y2 ∧ W.cell? ⟨k, o + 3, none⟩ = some y3 ∧ W.cell? ⟨k, o + 4, none⟩ = some y4 ∧ W.cell? ⟨k, o + 5, none⟩ = some y5 := by
  obtain ⟨b0, b1, b2, b3, b4, b5⟩ := h
  exact ⟨(cell_keep h4 _).trans b0, (cell_keep h4 _).trans b1, (cell_keep h4 _).trans b2, (cell_keep h4 _).trans b3, (cell_keep h4 _).trans b4, (cell_keep h4 _).trans b5⟩
/-- What typed returns. -/
def RefTypedAt (s : Sy) (w : World) (S : Nat → Prop) (z : Ending) (w' : World) : Prop :=
  ∃ v0 v1 : Value, z = .returned (.agg #[v0, v1]) ∧ s.ty.In w' (Ex S w w') v0 v1 ∧ Below w.heap.size w w'

set_option maxRecDepth 100000 in
set_option maxHeartbeats 4000000 in
theorem refTyped_con (nx : ByteArray) (s : Sy) (cs : List Value) (uv : Value) (w : World) (S : Nat → Prop) (h : nmRep.R w S (Nm.con nx s).tr cs) (hS : ∀ b, S b → b < w.heap.size) :
    Calls Tryd.prog 71 #[.agg cs.toArray, uv] w (RefTypedAt s w S) := by
  obtain ⟨u0, u1, vs, rfl, hnm, hty, hl⟩ := Nt.open_ (a := ⟨1, 0, nx, s.ty⟩) (l := []) h
  obtain ⟨sa, Aa, na, ca, rfl, rfl⟩ := hty.shape
  obtain ⟨A, n, cp, rfl, hln, hm, _⟩ := hl
  simp only [List.length_nil] at hln
  subst hln
  clear h hm hnm
  have HS := Lib.hid hS
  have HTY := Lib.hid hty
  clear hS hty
  go_enter Tryd.func71, Tryd.ntmps71
  go_wp2_with fail
  refine bodyPost_ret (v := .agg #[.string sa, .slice Aa na ca]) (by simp [results, Tryd.results71, go_sem]) rfl ?_
  exact ⟨_, _, rfl, Ty.In_keep (fun b hb => heap_old (by have := HS.out b hb; simp; omega) (heap_old (HS.out b hb) rfl)) (fun b hb => Or.inl hb) _ _ _ HTY.out, by go_grown⟩

set_option maxRecDepth 100000 in
set_option maxHeartbeats 4000000 in
theorem refTyped_var (i : Nat) (e : List (Nat × Sy)) (s : Sy) (cs : List Value) (uv : Value) (w : World) (S : Nat → Prop) (he : e.length ≤ 1000000) (hnd : (e.map Prod.fst).Nodup) (hi : i ∈ e.map Prod.fst) (ht : (e.map Prod.snd)[pos (e.map Prod.fst) i]? = some s) (h : nmRep.R w S (Nm.var i).tr cs) (hk : KnAt w S uv e) (hS : ∀ b, S b → b < w.heap.size) :
    Calls Tryd.prog 71 #[.agg cs.toArray, uv] w (RefTypedAt s w S) := by
  obtain ⟨u0, u1, vs, rfl, hnm, hty, hl⟩ := Nt.open_ (a := ⟨2, (i : Int), bNil, noTy⟩) (l := []) h
  obtain ⟨sa, Aa, na, ca, rfl, rfl⟩ := hty.shape
  obtain ⟨A, n, cp, rfl, hln, hm, _⟩ := hl
  simp only [List.length_nil] at hln
  subst hln
  obtain ⟨Au, cu, rfl⟩ := hk.shape
  have hhit : ∀ j (hj : j < e.length), (e[e.length - 1 - j]'(by omega)).1 = i → (e[e.length - 1 - j]'(by omega)).2 = s := fun j hj hh => by
    have := known_hit e i j hnd hj hh
    rw [ht] at this
    exact (Option.some.inj this).symm
  have hmiss : ¬ ∀ j (hj : j < e.length), (e[e.length - 1 - j]'(by omega)).1 ≠ i := fun hh => known_miss e i hh hi
  clear h hm hnm hty ht hi hnd
  have HS := Lib.hid hS
  have HK := Lib.hid hk
  have HHIT := Lib.hid hhit
  have HMISS := Lib.hid hmiss
  clear hS hk hhit hmiss
  go_enter Tryd.func71, Tryd.ntmps71
  go_wp2_with fail
  go_loopg [13] e.length (fun k v13 wr => ∃ j : Nat, j + k = e.length ∧ v13 = .int .i64 j ∧ (∀ q (hq : q < e.length), q < j → (e[e.length - 1 - q]'(by omega)).1 ≠ i) ∧
    wr.heap[w.heap.size]? = some (.cells #[.int .i64 2, .int .i64 (i : Int), .string bNil, .string sa, .slice Aa na ca, .slice A 0 cp] 65 (0, 0)) ∧ wr.heap[w.heap.size + 1]? = some (.cells #[.string ⟨#[]⟩, .slice none 0 0] 24 (0, 0)) ∧ Below w.heap.size w wr ∧ w.heap.size + 2 ≤ wr.heap.size)
  case atStart => exact ⟨0, by omega, rfl, fun q _ h => absurd h (by omega), heap_old (by simp) (heap_at rfl), heap_at (by simp), by go_grown, by simp⟩
  case round =>
    obtain ⟨j, hj, rfl, hpre, hx0, hx1, hb, zr⟩ := hrel
    have HB := Lib.hid hb
    have HPRE := Lib.hid hpre
    clear hb hpre
    have hx0_0 := cv0 hx0
    have hx0_1 := cv1 hx0
    have hx0_2 := cv2 hx0
    have hx0_3 := cv3 hx0
    have hx0_4 := cv4 hx0
    have hx0_5 := cv5 hx0
    have hx0_l := lt_heap hx0
    have HX0 := Lib.hid hx0
    clear hx0
    have hx1_0 := cv0 hx1
    have hx1_1 := cv1 hx1
    have hx1_f0 := free_heap hx1 0
    have hx1_f1 := free_heap hx1 1
    have hx1_l := lt_heap hx1
    have HX1 := Lib.hid hx1
    clear hx1
    by_cases hjl : j < e.length
    case neg => exact absurd (fun q hq => HPRE.out q hq (by omega)) HMISS.out
    obtain ⟨b, o, u0, u1, rfl, hSb, hc0, hc1, hc2, hpt⟩ := HK.out.at_ hjl
    obtain ⟨p, hp⟩ : ∃ p, p = e[e.length - 1 - j]'(by omega) := ⟨_, rfl⟩
    have hh : p.1 = i → p.2 = s := by rw [hp]; exact HHIT.out j hjl
    have hnx : p.1 ≠ i → ∀ q (hq : q < e.length), q < j + 1 → (e[e.length - 1 - q]'(by omega)).1 ≠ i := by
      rw [hp]
      intro h2 q hq h1
      rcases Nat.lt_or_ge q j with h3 | h3
      · exact HPRE.out q hq h3
      · obtain rfl : q = j := by omega
        exact h2
    rw [← hp] at hc0 hpt
    clear hp
    obtain ⟨p1, p2⟩ := p
    simp only at hc0 hpt hh hnx
    have hh := Lib.hid hh
    have hnx := Lib.hid hnx
    obtain ⟨sp, Ap, np, cpp, rfl, rfl⟩ := hpt.shape
    have hbs := HS.out b hSb
    have hc0 := (cell_keep (HB.out.block b hbs) _).trans hc0
    have hc1 := (cell_keep (HB.out.block b hbs) _).trans hc1
    have hc2 := (cell_keep (HB.out.block b hbs) _).trans hc2
    have zb : b < wr.heap.size := by omega
    have q0 : (0 : Int) ≤ (j : Int) := by omega
    have q1 : (j : Int) < (e.length : Int) := by omega
    have hpt' := Ty.In_keep (S' := S) (fun k hk => HB.out.block k (HS.out k hk)) (fun _ h => h) _ _ _ hpt
    have l1 : w.heap.size < wr.heap.size + 1 := by omega
    have l2 : w.heap.size + 1 < wr.heap.size + 1 := by omega
    clear hpt
    have HPTP := Lib.hid hpt'
    clear hpt'
    by_cases hpi : p1 = i
    · subst hpi
      have hps := hh.out rfl
      subst hps
      have q4 : ((p1 : Int) == (p1 : Int)) = true := by simp
      go_wp2_with fail
      refine bodyPost_ret (v := .agg #[.string sp, .slice Ap np cpp]) (by simp [results, Tryd.results71, go_sem, hx1_0, hx1_1, hx1_l, l2]) rfl ?_
      refine ⟨_, _, rfl, Ty.In_keep (fun k hk => ?_) (fun k hk => Or.inl hk) _ _ _ HPTP.out, ?_⟩
      · have := HS.out k hk
        first
        | exact heap_old (by simp only [size_set]; omega) (far2 (by omega) rfl)
        | exact far2 (by omega) (heap_old (by omega) rfl)
      · first
        | exact (below2 HB.out (by omega)).alloc (by simp only [size_set]; omega) _
        | exact below2 (HB.out.alloc (by omega) _) (by omega)
    · have q4 : ((p1 : Int) == (i : Int)) = false := by rw [beq_eq_false_iff_ne]; omega
      have hn2 := hnx.out hpi
      have HN2 := Lib.hid hn2
      clear hn2
      go_wp2_with fail
      go_roundg (e.length - (j + 1))
      case measure => omega
      case rel => exact ⟨j + 1, by omega, by go_num, HN2.out, heap_old (by omega) HX0.out, heap_old (by omega) HX1.out, HB.out.alloc (by omega) _, by simp; omega⟩

set_option maxRecDepth 100000 in
set_option maxHeartbeats 4000000 in
theorem refTyped_any : ∀ (N : Nat) (x : Nm) (e : List (Nat × Sy)) (s : Sy) (cs : List Value) (uv : Value) (w : World) (S : Nat → Prop) (m : Nat), x.nodes ≤ N → e.length + x.nodes ≤ 1000000 → x.good m (e.map Prod.fst) → (e.map Prod.fst).Nodup → Tv.typ (e.map Prod.snd) (x.tv (e.map Prod.fst)) = some s → nmRep.R w S x.tr cs → KnAt w S uv e → (∀ b, S b → b < w.heap.size) →
    Calls Tryd.prog 71 #[.agg cs.toArray, uv] w (RefTypedAt s w S) := by
  intro N
  induction N with
  | zero => intro x; have := x.nodes_pos; intros; omega
  | succ N ih =>
  intro x e s cs uv w S m hN hub hgood hnd htyp h hk hS
  have IH := Lib.hid ih
  clear ih
  cases x with
  | con nx s' =>
    obtain rfl : s' = s := Option.some.inj htyp
    exact refTyped_con nx s' cs uv w S h hS
  | var i => exact refTyped_var i e s cs uv w S (by omega) hnd hgood htyp h hk hS
  | app f y =>
    obtain ⟨a, htf, _⟩ := Tv.typ_app htyp
    obtain ⟨u0, u1, vs, rfl, hnm, hty, hl⟩ := Nt.open_ (a := ⟨4, 0, bNil, noTy⟩) (l := [f.tr, y.tr]) h
    obtain ⟨sa, Aa, na, ca, rfl, rfl⟩ := hty.shape
    obtain ⟨A, n, cp, rfl, hln, hm, hA⟩ := hl
    simp only [List.length_cons, List.length_nil] at hln
    subst hln
    obtain ⟨bb, oo, kc, rfl, hSb, hkr, hkc⟩ := Nt.kidAt (l := [f.tr, y.tr]) (c := cp) (k := 0) ⟨_, _, _, rfl, rfl, hm, hA⟩ rfl
    obtain ⟨s1, A1, n1, c1, B1, m1, d1, rfl, _, _⟩ := Nt.shape hkr
    have e0 := hkc 0 _ rfl
    rw [show oo + 0 * 6 + 0 = oo by omega] at e0
    have e1 := hkc 1 _ rfl
    rw [show oo + 0 * 6 + 1 = oo + 1 by omega] at e1
    have e2 := hkc 2 _ rfl
    rw [show oo + 0 * 6 + 2 = oo + 2 by omega] at e2
    have e3 := hkc 3 _ rfl
    rw [show oo + 0 * 6 + 3 = oo + 3 by omega] at e3
    have e4 := hkc 4 _ rfl
    rw [show oo + 0 * 6 + 4 = oo + 4 by omega] at e4
    have e5 := hkc 5 _ rfl
    rw [show oo + 0 * 6 + 5 = oo + 5 by omega] at e5
    have lb := hS _ hSb
    have lb1 : bb < w.heap.size + 1 := by omega
    have lb2 : bb < w.heap.size + 1 + 1 := by omega
    simp only [Nm.nodes] at hN hub
    have hih := fun (o p : Obj) => Lib.hid (IH.out f e (.fn a s) [.int .i64 f.tr.lab.kind, .int .i64 f.tr.lab.id, .string f.tr.lab.nm, .string s1, .slice A1 n1 c1, .slice B1 m1 d1] uv ((w.alloc o).alloc p) S m (by omega) (by omega) hgood.1 hnd htf (nmRep.keep hkr (fun k hk => heap_old (by have := hS k hk; simp; omega) (heap_old (hS k hk) rfl)) (fun _ h => h)) (hk.keep (fun k hk => heap_old (by have := hS k hk; simp; omega) (heap_old (hS k hk) rfl)) (fun _ h => h)) (fun k hk => by have := hS k hk; simp; omega))
    have hfd := run_field_args
    clear h hm hnm hty hkr hkc hA hk htyp htf hgood hnd
    have HS := Lib.hid hS
    have HIH := Lib.hid hih
    clear hS hih
    go_enter Tryd.func71, Tryd.ntmps71
    go_wp2_with fail
    (with_reducible refine (HIH.out _ _).out.mono ?_)
    unfold RefTypedAt
    rintro z w2 ⟨v0, v1, rfl, hv, hw2⟩
    obtain ⟨bl, o, c, x0, x1, y0, y1, rfl, rfl, hSl, g0, g1, g2, g3, hxx, hyy⟩ := Sy.In_fn hv
    obtain ⟨sy, Ay, ny, cy, rfl, rfl⟩ := hyy.shape
    have z2 : w.heap.size + 2 ≤ w2.heap.size := by have := hw2.size; simpa using this
    have r1 := (hw2.block (w.heap.size + 1) (by simp)).trans (heap_at (by simp))
    have hB2 : Below w.heap.size w w2 := (((Below.refl _ w).alloc (Nat.le_refl _) _).alloc (by simp) _).trans (hw2.mono (by simp; omega))
    have lbl : bl < w2.heap.size := by
      rcases hSl with hk | hk
      · have := HS.out bl hk; omega
      · exact hk.2
    have hy2 : s.ty.In w2 (fun k => S k ∨ (w.heap.size + 2 ≤ k ∧ k < w2.heap.size)) (.string sy) (.slice Ay ny cy) := hyy.mono (fun k hk => hk.imp_right (fun h => ⟨by have := h.1; simpa using this, h.2⟩))
    clear hv hxx hyy hSl g0 g1 e0 e1 e2 e3 e4 e5
    have HW2 := Lib.hid hw2
    have HB2 := Lib.hid hB2
    have HY2 := Lib.hid hy2
    clear hw2 hB2 hy2
    have r1_0 := cv0 r1
    have r1_1 := cv1 r1
    have r1_f0 := free_heap r1 0
    have r1_f1 := free_heap r1 1
    have r1_l := lt_heap r1
    have R1 := Lib.hid r1
    clear r1
    go_wp2_with fail
    refine bodyPost_ret (v := .agg #[.string sy, .slice Ay ny cy]) (by simp [results, Tryd.results71, go_sem, r1_0, r1_1, r1_l]) rfl ?_
    refine ⟨_, _, rfl, Ty.In_keep (fun k hk => far2 (by rcases hk with hk | hk; have := HS.out k hk; omega; omega) rfl) (fun k hk => hk.imp_right (fun h => ⟨by omega, lt2 h.2⟩)) _ _ _ HY2.out, below2 HB2.out (by omega)⟩
  | abs i a b =>
    obtain ⟨r, rfl, htr⟩ := Tv.typ_abs htyp
    obtain ⟨u0, u1, vs, rfl, hnm, hty, hl⟩ := Nt.open_ (a := ⟨3, (i : Int), bNil, a.ty⟩) (l := [b.tr]) h
    obtain ⟨sa, Aa, na, ca, rfl, rfl⟩ := hty.shape
    obtain ⟨A, n, cp, rfl, hln, hm, hA⟩ := hl
    simp only [List.length_cons, List.length_nil] at hln
    subst hln
    obtain ⟨bb, oo, kc, rfl, hSb, hkr, hkc⟩ := Nt.kidAt (l := [b.tr]) (c := cp) (k := 0) ⟨_, _, _, rfl, rfl, hm, hA⟩ rfl
    obtain ⟨s1, A1, n1, c1, B1, m1, d1, rfl, _, _⟩ := Nt.shape hkr
    obtain ⟨Au, cu, rfl⟩ := hk.shape
    have lb := hS _ hSb
    have hgd : b.good m (((i, a) :: e).map Prod.fst) := hgood.2.2
    have hndd : (((i, a) :: e).map Prod.fst).Nodup := by
      simp only [List.map_cons, List.nodup_cons]
      exact ⟨hgood.1, hnd⟩
    have htrr : Tv.typ (((i, a) :: e).map Prod.snd) (b.tv (((i, a) :: e).map Prod.fst)) = some r := htr
    simp only [Nm.nodes] at hN hub
    obtain ⟨i0, hi0, hz0, hz1, hz2⟩ := info_parts infoKnown
    have HGD := Lib.hid hgd
    have HND := Lib.hid hndd
    have HTR := Lib.hid htrr
    have HKR := Lib.hid hkr
    have HKC := Lib.hid hkc
    clear h hm hnm hkr hkc hA htyp htr htrr hgood hnd hndd hgd
    have HS := Lib.hid hS
    have HTY := Lib.hid hty
    have HK := Lib.hid hk
    clear hS hty hk
    go_enter Tryd.func71, Tryd.ntmps71
    go_upto_region 10 with (fail)
    refine gen_last (fun wx => Below w.heap.size w wx ∧ (wx.heap.size ≤ w.heap.size + 2 ∧ w.heap.size + 2 ≤ wx.heap.size) ∧ wx.heap[w.heap.size]? = some (.cells #[.int .i64 3, .int .i64 (i : Int), .string bNil, .string sa, .slice Aa na ca, .slice (some ⟨bb, oo, none⟩) 1 cp] 65 (0, 0)) ∧ wx.heap[w.heap.size + 1]? = some (.cells #[.string ⟨#[]⟩, .slice none 0 0] 24 (0, 0))) ?_ ?_
    · exact ⟨((Below.refl _ w).alloc (Nat.le_refl _) _).alloc (by simp) _, by simp, heap_old (by simp) (heap_at rfl), heap_at (by simp)⟩
    rintro wx ⟨hmo, zx, hx0, hx1⟩
    have hkx : ∀ k, S k → wx.heap[k]? = w.heap[k]? := fun k hk => hmo.block k (HS.out k hk)
    obtain ⟨l, ha1, hn1, hl1, ho1⟩ := (HK.out.keep (w' := wx) hkx (fun _ h => h)).news
    have hc0 : wx.cell? ⟨w.heap.size, 0, none⟩ = _ ∧ wx.cell? ⟨w.heap.size, 1, none⟩ = _ ∧ wx.cell? ⟨w.heap.size, 2, none⟩ = _ ∧ wx.cell? ⟨w.heap.size, 3, none⟩ = _ ∧ wx.cell? ⟨w.heap.size, 4, none⟩ = _ ∧ wx.cell? ⟨w.heap.size, 5, none⟩ = _ := ⟨cv0 hx0, cv1 hx0, cv2 hx0, cv3 hx0, cv4 hx0, cv5 hx0⟩
    have hc1 : wx.cell? ⟨bb, oo, none⟩ = _ ∧ wx.cell? ⟨bb, oo + 1, none⟩ = _ ∧ wx.cell? ⟨bb, oo + 2, none⟩ = _ ∧ wx.cell? ⟨bb, oo + 3, none⟩ = _ ∧ wx.cell? ⟨bb, oo + 4, none⟩ = _ ∧ wx.cell? ⟨bb, oo + 5, none⟩ = _ :=
      keepN6o (hkx bb hSb) ⟨by have := HKC.out 0 _ rfl; rwa [show oo + 0 * 6 + 0 = oo by omega] at this, by have := HKC.out 1 _ rfl; rwa [show oo + 0 * 6 + 1 = oo + 1 by omega] at this, by have := HKC.out 2 _ rfl; rwa [show oo + 0 * 6 + 2 = oo + 2 by omega] at this, by have := HKC.out 3 _ rfl; rwa [show oo + 0 * 6 + 3 = oo + 3 by omega] at this, by have := HKC.out 4 _ rfl; rwa [show oo + 0 * 6 + 4 = oo + 4 by omega] at this, by have := HKC.out 5 _ rfl; rwa [show oo + 0 * 6 + 5 = oo + 5 by omega] at this⟩
    have hc2 := hx1
    have lX : w.heap.size < wx.heap.size := by omega
    have lR : w.heap.size + 1 < wx.heap.size := by omega
    have lB : bb < w.heap.size := lb
    clear hx0 hx1
    have HC0 := Lib.hid hc0
    have HC1 := Lib.hid hc1
    have HC2 := Lib.hid hc2
    have HMO := Lib.hid hmo
    have HKX := Lib.hid hkx
    have HA1 := Lib.hid ha1
    have HN1 := Lib.hid hn1
    have HL1 := Lib.hid hl1
    have HO1 := Lib.hid ho1
    clear hc0 hc1 hc2 hmo hkx ha1 hn1 hl1 ho1
    refine wp_region_frame [27, 28, 29, 30, 31, 32, 33, 34, 35, 36, 37, 38, 39, 40, 41, 42, 43, 44] (TJx (.pointer (some ⟨w.heap.size, 3, none⟩)) (.agg #[.string sa, .slice Aa na ca]) (.pointer (some ⟨w.heap.size, 5, none⟩)) (.slice (some ⟨bb, oo, none⟩) 1 cp) (.pointer (some ⟨bb, oo, none⟩)) (.agg #[.int .i64 b.tr.lab.kind, .int .i64 b.tr.lab.id, .string b.tr.lab.nm, .string s1, .slice A1 n1 c1, .slice B1 m1 d1]) (.slice Au e.length cu) (.pointer (some ⟨w.heap.size, 1, none⟩)) (.int .i64 (i : Int)) (.pointer (some ⟨w.heap.size, 3, none⟩)) (.agg #[.string sa, .slice Aa na ca]) (.agg #[.int .i64 (i : Int), .string sa, .slice Aa na ca]) (fun z W => ∃ y0 y1 : Value, z = .agg #[y0, y1] ∧ r.ty.In W (fun k => S k ∨ (w.heap.size + 2 ≤ k ∧ k < W.heap.size)) y0 y1) (fun z W => ∃ y0 y1 : Value, z = .agg #[y0, y1] ∧ (Sy.fn a r).ty.In W (fun k => S k ∨ (w.heap.size + 2 ≤ k ∧ k < W.heap.size)) y0 y1) (fun W => ∃ y0 y1 : Value, W.heap[w.heap.size + 1]? = some (.cells #[y0, y1] 24 (0, 0)) ∧ (Sy.fn a r).ty.In W (fun k => S k ∨ (w.heap.size + 2 ≤ k ∧ k < W.heap.size)) y0 y1) w.heap.size wx e.length l [.int .i64 (i : Int), .string sa, .slice Aa na ca]) (by kernel_rfl) (by kernel_rfl) ?h0 ?hend ?hstep
    case h0 =>
      intro f xs hf hx _
      obtain ⟨x0, x1, x2, x3, x4, x5, x6, x7, x8, x9, x10, x11, x12, x13, x14, x15, x16, x17, rfl⟩ := len18 hx
      exact (TJ.start hf lX (Below.refl _ wx).drew).mk_
    case hend =>
      rintro f xs W hf ⟨x0, x1, x2, x3, x4, x5, x6, x7, x8, x9, x10, x11, x12, x13, x14, x15, x16, x17, rfl, hJ⟩
      obtain ⟨y0, y1, hr, hy⟩ := hJ.fin (hf 18 (by decide))
      obtain ⟨sq, Aq, nq, cq, rfl, rfl⟩ := hy.shape
      have hbl := HMO.out.trans hJ.bel0
      clear hf hJ
      have HY := Lib.hid hy
      have HBL := Lib.hid hbl
      clear hy hbl
      have hr_0 := cv0 hr
      have hr_1 := cv1 hr
      have hr_l := lt_heap hr
      have HR := Lib.hid hr
      clear hr
      simp only [withs, Act.put, List.setIfInBounds_toArray, List.set_cons_succ, List.set_cons_zero]
      go_wp2_with fail
      refine bodyPost_ret (v := .agg #[.string sq, .slice Aq nq cq]) (by simp [results, Tryd.results71, go_sem, hr_0, hr_1, hr_l]) rfl ?_
      exact ⟨_, _, rfl, HY.out.mono (fun k hk => hk.imp_right (fun h => ⟨by omega, h.2⟩)), HBL.out⟩
    case hstep =>
      rintro io hi f xs W hn hp ⟨x0, x1, x2, x3, x4, x5, x6, x7, x8, x9, x10, x11, x12, x13, x14, x15, x16, x17, rfl, hJ⟩
      have hi : io < 19 := hi
      rcases (by omega : io = 0 ∨ io = 1 ∨ io = 2 ∨ io = 3 ∨ io = 4 ∨ io = 5 ∨ io = 6 ∨ io = 7 ∨ io = 8 ∨ io = 9 ∨ io = 10 ∨ io = 11 ∨ io = 12 ∨ io = 13 ∨ io = 14 ∨ io = 15 ∨ io = 16 ∨ io = 17 ∨ io = 18) with rfl | rfl | rfl | rfl | rfl | rfl | rfl | rfl | rfl | rfl | rfl | rfl | rfl | rfl | rfl | rfl | rfl | rfl | rfl
      · refine wpOp_run rfl (by rfl) (fun K hK => ?_)
        simp only [withs, Act.put, List.setIfInBounds_toArray, List.set_cons_succ, List.set_cons_zero]
        go_simp
        exact hK _ _ ⟨[(.pointer (some ⟨w.heap.size, 3, none⟩)), x1, x2, x3, x4, x5, x6, x7, x8, x9, x10, x11, x12, x13, x14, x15, x16, x17], (by simp only [withs, Act.put, List.setIfInBounds_toArray, List.set_cons_succ, List.set_cons_zero]), (hJ.st0).mk_⟩
      · obtain rfl := hJ.h0 (hp 0 (of_decide_eq_true (by kernel_rfl)))
        obtain ⟨e0, e1, e2, e3, e4, e5⟩ := keepN6 hJ.kx HC0.out
        have lW : w.heap.size < W.heap.size := Nat.lt_of_lt_of_le lX hJ.bel0.size
        refine wpOp_run rfl (by rfl) (fun K hK => ?_)
        simp only [withs, Act.put, List.setIfInBounds_toArray, List.set_cons_succ, List.set_cons_zero]
        go_simp
        exact hK _ _ ⟨[(.pointer (some ⟨w.heap.size, 3, none⟩)), (.agg #[.string sa, .slice Aa na ca]), x2, x3, x4, x5, x6, x7, x8, x9, x10, x11, x12, x13, x14, x15, x16, x17], (by simp only [withs, Act.put, List.setIfInBounds_toArray, List.set_cons_succ, List.set_cons_zero]), (hJ.st1).mk_⟩
      · refine wpOp_run rfl (by rfl) (fun K hK => ?_)
        simp only [withs, Act.put, List.setIfInBounds_toArray, List.set_cons_succ, List.set_cons_zero]
        go_simp
        exact hK _ _ ⟨[x0, x1, (.pointer (some ⟨w.heap.size, 5, none⟩)), x3, x4, x5, x6, x7, x8, x9, x10, x11, x12, x13, x14, x15, x16, x17], (by simp only [withs, Act.put, List.setIfInBounds_toArray, List.set_cons_succ, List.set_cons_zero]), (hJ.st2).mk_⟩
      · obtain rfl := hJ.h2 (hp 2 (of_decide_eq_true (by kernel_rfl)))
        obtain ⟨e0, e1, e2, e3, e4, e5⟩ := keepN6 hJ.kx HC0.out
        have lW : w.heap.size < W.heap.size := Nat.lt_of_lt_of_le lX hJ.bel0.size
        refine wpOp_run rfl (by rfl) (fun K hK => ?_)
        simp only [withs, Act.put, List.setIfInBounds_toArray, List.set_cons_succ, List.set_cons_zero]
        go_simp
        exact hK _ _ ⟨[x0, x1, (.pointer (some ⟨w.heap.size, 5, none⟩)), (.slice (some ⟨bb, oo, none⟩) 1 cp), x4, x5, x6, x7, x8, x9, x10, x11, x12, x13, x14, x15, x16, x17], (by simp only [withs, Act.put, List.setIfInBounds_toArray, List.set_cons_succ, List.set_cons_zero]), (hJ.st3).mk_⟩
      · obtain rfl := hJ.h3 (hp 3 (of_decide_eq_true (by kernel_rfl)))
        have q0 : (0 : Int) < ((1 : Nat) : Int) := by decide
        refine wpOp_run rfl (by rfl) (fun K hK => ?_)
        simp only [withs, Act.put, List.setIfInBounds_toArray, List.set_cons_succ, List.set_cons_zero]
        go_simp
        exact hK _ _ ⟨[x0, x1, x2, (.slice (some ⟨bb, oo, none⟩) 1 cp), (.pointer (some ⟨bb, oo, none⟩)), x5, x6, x7, x8, x9, x10, x11, x12, x13, x14, x15, x16, x17], (by simp only [withs, Act.put, List.setIfInBounds_toArray, List.set_cons_succ, List.set_cons_zero]), (hJ.st4).mk_⟩
      · obtain rfl := hJ.h4 (hp 4 (of_decide_eq_true (by kernel_rfl)))
        obtain ⟨e0, e1, e2, e3, e4, e5⟩ := keepN6o (hJ.bel0.block _ lB) HC1.out
        have lW : bb < W.heap.size := by have := hJ.bel0.size; omega
        refine wpOp_run rfl (by rfl) (fun K hK => ?_)
        simp only [withs, Act.put, List.setIfInBounds_toArray, List.set_cons_succ, List.set_cons_zero]
        go_simp
        exact hK _ _ ⟨[x0, x1, x2, x3, (.pointer (some ⟨bb, oo, none⟩)), (.agg #[.int .i64 b.tr.lab.kind, .int .i64 b.tr.lab.id, .string b.tr.lab.nm, .string s1, .slice A1 n1 c1, .slice B1 m1 d1]), x6, x7, x8, x9, x10, x11, x12, x13, x14, x15, x16, x17], (by simp only [withs, Act.put, List.setIfInBounds_toArray, List.set_cons_succ, List.set_cons_zero]), (hJ.st5).mk_⟩
      · refine wpOp_run rfl (by rfl) (fun K hK => ?_)
        simp only [withs, Act.put, List.setIfInBounds_toArray, List.set_cons_succ, List.set_cons_zero]
        go_simp
        exact hK _ _ ⟨[x0, x1, x2, x3, x4, x5, (.slice (some ⟨W.heap.size, 0, none⟩) 0 0), x7, x8, x9, x10, x11, x12, x13, x14, x15, x16, x17], (by simp only [withs, Act.put, List.setIfInBounds_toArray, List.set_cons_succ, List.set_cons_zero]), (hJ.st6 hn).mk_⟩
      · refine wpOp_run rfl (by rfl) (fun K hK => ?_)
        simp only [withs, Act.put, List.setIfInBounds_toArray, List.set_cons_succ, List.set_cons_zero]
        go_simp
        exact hK _ _ ⟨[x0, x1, x2, x3, x4, x5, x6, (.slice Au e.length cu), x8, x9, x10, x11, x12, x13, x14, x15, x16, x17], (by simp only [withs, Act.put, List.setIfInBounds_toArray, List.set_cons_succ, List.set_cons_zero]), (hJ.st7).mk_⟩
      · obtain ⟨g, rfl, rfl, ho, hk⟩ := TJ.st8 (by simp) hJ (hp 6 (of_decide_eq_true (by kernel_rfl))) (hp 7 (of_decide_eq_true (by kernel_rfl))) hn
        refine wpOp_run rfl (by rfl) (fun K hK => ?_)
        simp only [withs, Act.put, List.setIfInBounds_toArray, List.set_cons_succ, List.set_cons_zero]
        refine step_wp (by rfl) ?_
        refine step_append_all _ (by rfl) (.tmp 33) (.tmp 34) _ (by rfl) wx.heap.size 99 i0 _ 3 48 Tryd.underlying96 hi0 hz0 hz1 hz2 rfl (by omega) _ 0 [] (by rfl) ho _ e.length l (by rfl) HL1.out (HN1.out.to (fun b hb => hJ.bel0.block b (HS.out b hb))) HO1.out (by unfold maxLen; omega) (by omega) hJ.bel0.size _ rfl e.length (by omega) ?_
        intro A' c' W' k1 k2 k3
        exact hK _ _ ⟨[x0, x1, x2, x3, x4, x5, (.slice (some ⟨g, 0, none⟩) 0 0), (.slice Au e.length cu), (.slice A' e.length c'), x9, x10, x11, x12, x13, x14, x15, x16, x17], (by show Act.put _ (some 35) _ = _; simp only [withs, Act.put, List.setIfInBounds_toArray, List.set_cons_succ, List.set_cons_zero]), (hk A' c' W' k1 k2).mk_⟩
      · refine wpOp_run rfl (by rfl) (fun K hK => ?_)
        simp only [withs, Act.put, List.setIfInBounds_toArray, List.set_cons_succ, List.set_cons_zero]
        go_simp
        exact hK _ _ ⟨[x0, x1, x2, x3, x4, x5, x6, x7, x8, (.pointer (some ⟨w.heap.size, 1, none⟩)), x10, x11, x12, x13, x14, x15, x16, x17], (by simp only [withs, Act.put, List.setIfInBounds_toArray, List.set_cons_succ, List.set_cons_zero]), (hJ.st9).mk_⟩
      · obtain rfl := hJ.h9 (hp 9 (of_decide_eq_true (by kernel_rfl)))
        obtain ⟨e0, e1, e2, e3, e4, e5⟩ := keepN6 hJ.kx HC0.out
        have lW : w.heap.size < W.heap.size := Nat.lt_of_lt_of_le lX hJ.bel0.size
        refine wpOp_run rfl (by rfl) (fun K hK => ?_)
        simp only [withs, Act.put, List.setIfInBounds_toArray, List.set_cons_succ, List.set_cons_zero]
        go_simp
        exact hK _ _ ⟨[x0, x1, x2, x3, x4, x5, x6, x7, x8, (.pointer (some ⟨w.heap.size, 1, none⟩)), (.int .i64 (i : Int)), x11, x12, x13, x14, x15, x16, x17], (by simp only [withs, Act.put, List.setIfInBounds_toArray, List.set_cons_succ, List.set_cons_zero]), (hJ.st10).mk_⟩
      · refine wpOp_run rfl (by rfl) (fun K hK => ?_)
        simp only [withs, Act.put, List.setIfInBounds_toArray, List.set_cons_succ, List.set_cons_zero]
        go_simp
        exact hK _ _ ⟨[x0, x1, x2, x3, x4, x5, x6, x7, x8, x9, x10, (.pointer (some ⟨w.heap.size, 3, none⟩)), x12, x13, x14, x15, x16, x17], (by simp only [withs, Act.put, List.setIfInBounds_toArray, List.set_cons_succ, List.set_cons_zero]), (hJ.st11).mk_⟩
      · obtain rfl := hJ.h11 (hp 11 (of_decide_eq_true (by kernel_rfl)))
        obtain ⟨e0, e1, e2, e3, e4, e5⟩ := keepN6 hJ.kx HC0.out
        have lW : w.heap.size < W.heap.size := Nat.lt_of_lt_of_le lX hJ.bel0.size
        refine wpOp_run rfl (by rfl) (fun K hK => ?_)
        simp only [withs, Act.put, List.setIfInBounds_toArray, List.set_cons_succ, List.set_cons_zero]
        go_simp
        exact hK _ _ ⟨[x0, x1, x2, x3, x4, x5, x6, x7, x8, x9, x10, (.pointer (some ⟨w.heap.size, 3, none⟩)), (.agg #[.string sa, .slice Aa na ca]), x13, x14, x15, x16, x17], (by simp only [withs, Act.put, List.setIfInBounds_toArray, List.set_cons_succ, List.set_cons_zero]), (hJ.st12).mk_⟩
      · obtain rfl := hJ.h10 (hp 10 (of_decide_eq_true (by kernel_rfl)))
        obtain rfl := hJ.h12 (hp 12 (of_decide_eq_true (by kernel_rfl)))
        refine wpOp_run rfl (by rfl) (fun K hK => ?_)
        simp only [withs, Act.put, List.setIfInBounds_toArray, List.set_cons_succ, List.set_cons_zero]
        go_simp
        exact hK _ _ ⟨[x0, x1, x2, x3, x4, x5, x6, x7, x8, x9, (.int .i64 (i : Int)), x11, (.agg #[.string sa, .slice Aa na ca]), (.agg #[.int .i64 (i : Int), .string sa, .slice Aa na ca]), x14, x15, x16, x17], (by simp only [withs, Act.put, List.setIfInBounds_toArray, List.set_cons_succ, List.set_cons_zero]), (hJ.st13).mk_⟩
      · obtain rfl := hJ.h13 (hp 13 (of_decide_eq_true (by kernel_rfl)))
        refine wpOp_run rfl (by rfl) (fun K hK => ?_)
        simp only [withs, Act.put, List.setIfInBounds_toArray, List.set_cons_succ, List.set_cons_zero]
        go_simp
        exact hK _ _ ⟨[x0, x1, x2, x3, x4, x5, x6, x7, x8, x9, x10, x11, x12, (.agg #[.int .i64 (i : Int), .string sa, .slice Aa na ca]), (.slice (some ⟨W.heap.size, 0, none⟩) 1 1), x15, x16, x17], (by simp only [withs, Act.put, List.setIfInBounds_toArray, List.set_cons_succ, List.set_cons_zero]), (hJ.st14 hn).mk_⟩
      · obtain ⟨A2, c2, g, rfl, ho, rfl, hh, hk⟩ := hJ.st15 (hp 8 (of_decide_eq_true (by kernel_rfl))) (hp 14 (of_decide_eq_true (by kernel_rfl))) hn
        refine wpOp_run rfl (by rfl) (fun K hK => ?_)
        simp only [withs, Act.put, List.setIfInBounds_toArray, List.set_cons_succ, List.set_cons_zero]
        refine step_wp (by rfl) ?_
        refine step_append_all _ (by rfl) (.tmp 35) (.tmp 41) _ (by rfl) wx.heap.size 99 i0 _ 3 48 Tryd.underlying96 hi0 hz0 hz1 hz2 rfl (by omega) _ e.length ([] ++ l) (by rfl) ho _ 1 [.int .i64 (i : Int), .string sa, .slice Aa na ca] (by rfl) rfl (Or.inr ⟨_, _, rfl, World.news_of_block (cs := #[.int .i64 (i : Int), .string sa, .slice Aa na ca]) hh⟩) (by simp [Value.oneCell']) (by unfold maxLen; omega) (by omega) hJ.bel0.size _ rfl (e.length + 1) rfl ?_
        intro A' c' W' k1 k2 k3
        exact hK _ _ ⟨[x0, x1, x2, x3, x4, x5, x6, x7, (.slice A2 e.length c2), x9, x10, x11, x12, x13, (.slice (some ⟨g, 0, none⟩) 1 1), (.slice A' (e.length + 1) c'), x16, x17], (by show Act.put _ (some 42) _ = _; simp only [withs, Act.put, List.setIfInBounds_toArray, List.set_cons_succ, List.set_cons_zero]), (hk A' c' W' k1 k2).mk_⟩
      · have g15 := hp 15 (of_decide_eq_true (by kernel_rfl))
        obtain rfl := hJ.h5 (hp 5 (of_decide_eq_true (by kernel_rfl)))
        obtain ⟨A2, c2, rfl, ho⟩ := hJ.row g15 hn
        have hWS : ∀ k, S k → W.heap[k]? = wx.heap[k]? := fun k hk => hJ.bel0.block k (HS.out k hk)
        have zW := hJ.bel0.size
        have hkn : KnAt W (fun k => S k ∨ (w.heap.size + 2 ≤ k ∧ k < W.heap.size)) (.slice A2 (e.length + 1) c2) ((i, a) :: e) := KnAt.snoc (a := (i, a)) HA1.out ⟨.string sa, .slice Aa na ca, rfl, Ty.In_keep (fun k hk => (hWS k hk).trans (HKX.out k hk)) (fun k hk => Or.inl hk) _ _ _ HTY.out⟩ hWS (fun k hk => Or.inl hk) ho rfl (by unfold maxLen; omega) (fun g h1 h2 => Or.inr ⟨by omega, h2⟩)
        have hih := IH.out b ((i, a) :: e) r [.int .i64 b.tr.lab.kind, .int .i64 b.tr.lab.id, .string b.tr.lab.nm, .string s1, .slice A1 n1 c1, .slice B1 m1 d1] (.slice A2 (e.length + 1) c2) W (fun k => S k ∨ (w.heap.size + 2 ≤ k ∧ k < W.heap.size)) m (by omega) (by simp only [List.length_cons]; omega) HGD.out HND.out HTR.out (nmRep.keep HKR.out (fun k hk => (hWS k hk).trans (HKX.out k hk)) (fun k hk => Or.inl hk)) hkn (fun k hk => by rcases hk with hk | hk; have := HS.out k hk; omega; exact hk.2)
        have HIH := Lib.hid hih
        clear hih hkn ho
        refine wpOp_run rfl (by rfl) (fun K hK => ?_)
        simp only [withs, Act.put, List.setIfInBounds_toArray, List.set_cons_succ, List.set_cons_zero]
        refine step_wp (by rfl) ?_
        refine step_call (by rfl) 71 _ (by go_simp) HIH.out ?_
        rintro z w2 ⟨y0, y1, rfl, hy, hw2⟩
        have z2 := hw2.size
        refine ⟨_, rfl, ?_⟩
        exact hK _ _ ⟨[x0, x1, x2, x3, x4, (.agg #[.int .i64 b.tr.lab.kind, .int .i64 b.tr.lab.id, .string b.tr.lab.nm, .string s1, .slice A1 n1 c1, .slice B1 m1 d1]), x6, x7, x8, x9, x10, x11, x12, x13, x14, (.slice A2 (e.length + 1) c2), (.agg #[y0, y1]), x17], (by show Act.put _ (some 43) _ = _; simp only [withs, Act.put, List.setIfInBounds_toArray, List.set_cons_succ, List.set_cons_zero]), (hJ.st16 g15 hn ((hJ.bel (hJ.no18 (hJ.no17 hn))).trans (hw2.mono zW)) ⟨y0, y1, rfl, hy.mono (fun k hk => by
          rcases hk with (hk | hk) | hk
          · exact Or.inl hk
          · exact Or.inr ⟨hk.1, by omega⟩
          · exact Or.inr ⟨by have := hk.1; omega, hk.2⟩)⟩).mk_⟩
      · have g16 := hp 16 (of_decide_eq_true (by kernel_rfl))
        obtain rfl := hJ.h1 (hp 1 (of_decide_eq_true (by kernel_rfl)))
        obtain ⟨y0, y1, rfl, hy⟩ := hJ.r16 g16 hn
        have hWS : ∀ k, S k → W.heap[k]? = wx.heap[k]? := fun k hk => hJ.bel0.block k (HS.out k hk)
        have zW := hJ.bel0.size
        have hto := Lib.hid (to_any a.ty r.ty (.string sa) (.slice Aa na ca) y0 y1 W (fun k => S k ∨ (w.heap.size + 2 ≤ k ∧ k < W.heap.size)) (Ty.In_keep (fun k hk => (hWS k hk).trans (HKX.out k hk)) (fun k hk => Or.inl hk) _ _ _ HTY.out) hy (fun k hk => by rcases hk with hk | hk; have := HS.out k hk; omega; exact hk.2))
        refine wpOp_run rfl (by rfl) (fun K hK => ?_)
        simp only [withs, Act.put, List.setIfInBounds_toArray, List.set_cons_succ, List.set_cons_zero]
        refine step_wp (by rfl) ?_
        refine step_call (by rfl) 53 _ (by go_simp) hto.out ?_
        rintro z w2 ⟨v0, v1, rfl, hv, hw2⟩
        have z2 := hw2.size
        refine ⟨_, rfl, ?_⟩
        exact hK _ _ ⟨[x0, (.agg #[.string sa, .slice Aa na ca]), x2, x3, x4, x5, x6, x7, x8, x9, x10, x11, x12, x13, x14, x15, (.agg #[y0, y1]), (.agg #[v0, v1])], (by show Act.put _ (some 44) _ = _; simp only [withs, Act.put, List.setIfInBounds_toArray, List.set_cons_succ, List.set_cons_zero]), (hJ.st17 g16 hn ((hJ.bel (hJ.no18 hn)).trans (hw2.mono zW)) ⟨v0, v1, rfl, hv.mono (fun k hk => by
          rcases hk with (hk | hk) | hk
          · exact Or.inl hk
          · exact Or.inr ⟨hk.1, by omega⟩
          · exact Or.inr ⟨by have := hk.1; omega, hk.2⟩)⟩).mk_⟩
      · have g17 := hp 17 (of_decide_eq_true (by kernel_rfl))
        obtain ⟨v0, v1, rfl, hv⟩ := hJ.r17 g17 hn
        obtain ⟨sq, Aq, nq, cq, rfl, rfl⟩ := hv.shape
        have zW := hJ.bel0.size
        have hr := ((hJ.bel hn).block _ lR).trans HC2.out
        have hr_0 := cv0 hr
        have hr_1 := cv1 hr
        have hr_f0 := free_heap hr 0
        have hr_f1 := free_heap hr 1
        have hr_l := lt_heap hr
        refine wpOp_run rfl (by rfl) (fun K hK => ?_)
        simp only [withs, Act.put, List.setIfInBounds_toArray, List.set_cons_succ, List.set_cons_zero]
        go_simp
        exact hK _ _ ⟨[x0, x1, x2, x3, x4, x5, x6, x7, x8, x9, x10, x11, x12, x13, x14, x15, x16, (.agg #[.string sq, .slice Aq nq cq])], (by simp only [withs, Act.put, List.setIfInBounds_toArray, List.set_cons_succ, List.set_cons_zero]), (hJ.st18 g17 (below2 hJ.bel0 (by omega)) (far2 (by omega) hJ.kx) ⟨_, _, at2 hr, Ty.In_keep (fun k hk => far2 (by rcases hk with hk | hk; have := HS.out k hk; omega; omega) rfl) (fun k hk => hk.imp_right (fun h => ⟨h.1, lt2 h.2⟩)) _ _ _ hv⟩).mk_⟩


/-- What long leaves: the form, and the two counters behind the pointers. -/
def LongAt (k : Nat) (x : Nm) (e : List (Nat × Sy)) (hd : Bool) (n : Nat) (r : Int) (bn br : Nat) (w : World) (S : Nat → Prop) (z : Ending) (w' : World) : Prop :=
  ∃ es : List Value, z = .returned (.agg es.toArray) ∧ nmRep.R w' (Ex S w w') (Nm.long k x e hd n r).1.tr es ∧ w'.heap[bn]? = some (.cells #[.int .i64 ((Nm.long k x e hd n r).2.1 : Nat)] 3 (0, 0)) ∧ w'.heap[br]? = some (.cells #[.int .i64 (Nm.long k x e hd n r).2.2] 3 (0, 0)) ∧ Mods (fun b => b = bn ∨ b = br) w.heap.size w w'
/-- What long asks for (fuel k; d: what sizes may exceed their bounds by). -/
structure LongPre (k d : Nat) (x : Nm) (e : List (Nat × Sy)) (s : Sy) (n : Nat) (r : Int) (cs : List Value) (uv : Value) (bn br : Nat) (w : World) (S : Nat → Prop) : Prop extends LongPure k d x e s n r where
  mem : nmRep.R w S x.tr cs
  kn : KnAt w S uv e
  lo : ∀ b, S b → b < w.heap.size ∧ b ≠ bn ∧ b ≠ br
  ne : bn ≠ br
  hn : w.heap[bn]? = some (.cells #[.int .i64 (n : Nat)] 3 (0, 0))
  hr : w.heap[br]? = some (.cells #[.int .i64 r] 3 (0, 0))

set_option maxRecDepth 100000 in
set_option maxHeartbeats 4000000 in
theorem longR_neg (k d : Nat) (x : Nm) (e : List (Nat × Sy)) (s : Sy) (hd : Bool) (n : Nat) (r : Int) (cs : List Value) (uv : Value) (bn br : Nat) (w : World) (S : Nat → Prop) (hr : r < 0) (h : LongPre k d x e s n r cs uv bn br w S) :
    Calls Tryd.prog 55 #[.agg cs.toArray, uv, .bool hd, .pointer (some ⟨bn, 0, none⟩), .pointer (some ⟨br, 0, none⟩)] w (LongAt k x e hd n r bn br w S) := by
  obtain ⟨s0, A0, n0, c0, B0, m0, d0, rfl, _, _⟩ := Nt.shape h.mem
  have hbr := h.hr
  have hbl := lt_heap hbr
  have hbl1 : br < w.heap.size + 1 := by omega
  have hbl2 : br < w.heap.size + 1 + 1 := by omega
  have e0 := cv0 hbr
  have hnl := Nm.long_neg k x e hd n r hr
  have HH := Lib.hid h
  have HBR := Lib.hid hbr
  clear h hbr
  have HNL := Lib.hid hnl
  clear hnl
  go_enter Tryd.func55, Tryd.ntmps55
  go_wp2_with fail
  refine bodyPost_ret (v := .agg #[.int .i64 x.tr.lab.kind, .int .i64 x.tr.lab.id, .string x.tr.lab.nm, .string s0, .slice A0 n0 c0, .slice B0 m0 d0]) (by simp [results, Tryd.results55, go_sem]) rfl ?_
  unfold LongAt
  rw [HNL.out]
  have hnl := lt_heap HH.out.hn
  exact ⟨_, rfl, nmRep.keep HH.out.mem (fun b hb => heap_old (by have := (HH.out.lo b hb).1; simp; omega) (heap_old (HH.out.lo b hb).1 rfl)) (fun b hb => Or.inl hb), heap_old (by simp; omega) (heap_old hnl HH.out.hn), heap_old (by simp; omega) (heap_old hbl HH.out.hr), Mods.below (by go_grown)⟩

set_option maxRecDepth 100000 in
set_option maxHeartbeats 4000000 in
theorem longR_node (k d : Nat) (x : Nm) (e : List (Nat × Sy)) (s : Sy) (hd : Bool) (n : Nat) (r : Int) (cs : List Value) (uv : Value) (bn br : Nat) (w : World) (S : Nat → Prop) (hr0 : ¬ r < 0) (hd4 : d ≤ 4) (hp : x.isAbs = true ∨ x.plain e hd) (h : LongPre (k + 1) d x e s n r cs uv bn br w S)
    (ih : ∀ (x' : Nm) (e' : List (Nat × Sy)) (s' : Sy) (hd' : Bool) (n' : Nat) (r' : Int) (cs' : List Value) (uv' : Value) (w' : World) (S' : Nat → Prop), LongPre k 0 x' e' s' n' r' cs' uv' bn br w' S' →
      Calls Tryd.prog 55 #[.agg cs'.toArray, uv', .bool hd', .pointer (some ⟨bn, 0, none⟩), .pointer (some ⟨br, 0, none⟩)] w' (LongAt k x' e' hd' n' r' bn br w' S')) :
    Calls Tryd.prog 55 #[.agg cs.toArray, uv, .bool hd, .pointer (some ⟨bn, 0, none⟩), .pointer (some ⟨br, 0, none⟩)] w (LongAt (k + 1) x e hd n r bn br w S) := by
  have IH := Lib.hid ih
  clear ih
  have hkid := fun (j : Nat) (hj : j < x.kidsH.length) => h.toLongPure.kid hd4 hr0 hj
  have hnd := Nm.long_node k x e hd n r hr0 hp
  unfold LongAt
  rw [hnd.1, hnd.2]
  clear hnd
  have hcase : s = .e ∨ s = .t ∨ ((∃ a b, s = .fn a b) ∧ ((x.lab.kind = 3) ∨ hd = true)) := by
    cases s with
    | e => exact Or.inl rfl
    | t => exact Or.inr (Or.inl rfl)
    | fn a b =>
      refine Or.inr (Or.inr ⟨⟨a, b, rfl⟩, ?_⟩)
      rcases hp with hp | hp | ⟨s', h1, h2⟩
      · left; cases x <;> first | rfl | (simp [Nm.isAbs] at hp)
      · exact Or.inr hp
      · have h3 := h.typ
        unfold Nm.ty at h1
        rw [h1] at h3
        obtain rfl := Option.some.inj h3
        simp [Sy.isFn] at h2
  have hab : ((x.lab.kind == 3) = true ∧ ∃ (i : Nat) (tt : Sy), x.lenv e = (i, tt) :: e ∧ x.lab.id = (i : Int) ∧ x.lab.ty = tt.ty) ∨ ((x.lab.kind == 3) = false ∧ x.lenv e = e) := by
    cases x <;> first | exact Or.inr ⟨rfl, rfl⟩ | exact Or.inl ⟨rfl, _, _, rfl, rfl, rfl⟩
  have hkat := x.kidsH_at
  have hkl := x.kidsH_len
  have hk2 := x.kids_len
  have hlo := h.lo
  have hne := h.ne
  have hbn := h.hn
  have hbr := h.hr
  have hnl := lt_heap hbn
  have hbl := lt_heap hbr
  have hbl1 : br < w.heap.size + 1 := by omega
  have hbl2 : br < w.heap.size + 1 + 1 := by omega
  have hrhi := h.rhi
  have hrlo := h.rlo
  have hel : e.length ≤ 200000 := by have := h.room; omega
  have hS := fun b hb => (hlo b hb).1
  have hold : ∀ (o p : Obj) k, S k → ((w.alloc o).alloc p).heap[k]? = w.heap[k]? := fun o p k hk => heap_old (by have := hS k hk; simp; omega) (heap_old (hS k hk) rfl)
  have hkn := h.kn
  obtain ⟨Au, cu, rfl⟩ := hkn.shape
  have hmem := h.mem
  rw [Nm.tr_eq] at hmem
  obtain ⟨u0, u1, vs, rfl, hnm, hty, hl⟩ := Nt.open_ hmem
  obtain ⟨sa, Aa, na, ca, rfl, rfl⟩ := hty.shape
  have HL := Lib.hid hl
  obtain ⟨A, m, c, rfl, hln, hm, _⟩ := hl
  rw [List.length_map] at hln
  subst hln
  have htp := fun (o p : Obj) => Lib.hid (refTyped_any x.nodes x e s _ (.slice Au e.length cu) ((w.alloc o).alloc p) S n (Nat.le_refl _) (by have := h.room; omega) h.good h.nodup h.typ (nmRep.keep h.mem (hold o p) (fun _ h => h)) (hkn.keep (hold o p) (fun _ h => h)) (fun b hb => by have := hS b hb; simp; omega))
  have e0 := cv0 hbr
  have hq : (r < 0) = False := by simp; omega
  generalize x.lab = lab at *
  obtain ⟨kd, idn, nx, ty⟩ := lab
  simp only at hty hab hcase htp
  clear h hm hmem hp
  have HNM := Lib.hid hnm
  have HR0 := Lib.hid hr0
  clear hnm hr0
  have HKID := Lib.hid hkid
  have HCASE := Lib.hid hcase
  have HKAT := Lib.hid hkat
  have HKL := Lib.hid hkl
  have HK2 := Lib.hid hk2
  have HLO := Lib.hid hlo
  have HBN := Lib.hid hbn
  have HBR := Lib.hid hbr
  have HOLD := Lib.hid hold
  have HKN := Lib.hid hkn
  have HTY := Lib.hid hty
  have HTP := Lib.hid htp
  have HRLO := Lib.hid hrlo
  clear hkid hcase hkat hkl hk2 hlo hbn hbr hold hkn hty htp hrlo
  have HS := Lib.hid hS
  clear hS
  go_enter Tryd.func55, Tryd.ntmps55
  go_wp2_with fail
  (with_reducible refine (HTP.out _ _).out.mono ?_)
  unfold RefTypedAt
  rintro z w2 ⟨v0, v1, rfl, hv, hw2⟩
  have z2 : w.heap.size + 2 ≤ w2.heap.size := by have := hw2.size; simpa using this
  have p0 := (hw2.block w.heap.size (by simp; omega)).trans (heap_old (by simp) (heap_at rfl))
  have p1 := (hw2.block (w.heap.size + 1) (by simp)).trans (heap_at (by simp))
  have hB2 : Below w.heap.size w w2 := (((Below.refl _ w).alloc (Nat.le_refl _) _).alloc (by simp) _).trans (hw2.mono (by simp; omega))
  have HV := Lib.hid hv
  have hsh := hv.shape
  clear hw2 hv
  obtain ⟨sv, Av, nv, cv, rfl, rfl⟩ := hsh
  have HB2 := Lib.hid hB2
  have P1 := Lib.hid p1
  clear hB2 p1
  have p0_0 := cv0 p0
  have p0_1 := cv1 p0
  have p0_2 := cv2 p0
  have p0_3 := cv3 p0
  have p0_4 := cv4 p0
  have p0_5 := cv5 p0
  have p0_l := lt_heap p0
  have P0 := Lib.hid p0
  clear p0
  go_upto_region 4 with (fail)
  refine gen_last (fun wx => Below w.heap.size w wx ∧ w.heap.size + 3 ≤ wx.heap.size ∧ wx.heap[w.heap.size]? = some (.cells #[.int .i64 kd, .int .i64 idn, .string nx, .string sa, .slice Aa na ca, .slice A x.kids.length c] 65 (0, 0)) ∧ wx.heap[w.heap.size + 1]? = some (.cells #[.int .i64 0, .int .i64 0, .string ⟨#[]⟩, .string ⟨#[]⟩, .slice none 0 0, .slice none 0 0] 65 (0, 0)) ∧ w2.heap.size < wx.heap.size ∧ wx.heap[w2.heap.size]? = some (.cells #[.string sv, .slice Av nv cv] 24 (0, 0))) ?_ ?_
  · exact ⟨HB2.out.alloc (by omega) _, by simp; omega, heap_old (by omega) P0.out, heap_old (by omega) P1.out, by simp, heap_at rfl⟩
  rintro wx ⟨hBx, zx, p0, p1, ls, ps⟩
  clear p0_0 p0_1 p0_2 p0_3 p0_4 p0_5 p0_l
  have HBX := Lib.hid hBx
  have P1 := Lib.hid p1
  clear hBx p1
  have p0_0 := cv0 p0
  have p0_1 := cv1 p0
  have p0_2 := cv2 p0
  have p0_3 := cv3 p0
  have p0_4 := cv4 p0
  have p0_5 := cv5 p0
  have p0_l := lt_heap p0
  have P0 := Lib.hid p0
  clear p0
  have ps_0 := cv0 ps
  have ps_1 := cv1 ps
  have ps_l := lt_heap ps
  have PS := Lib.hid ps
  clear ps
  go_cut [36] (fun s36 wy => s36 = .bool false ∧ wy = wx)
  case first =>
    rcases HCASE.out with rfl | rfl | ⟨⟨a0, b0, rfl⟩, hk⟩
    · obtain ⟨A1, c1, e1, e2⟩ := Sy.In_e HV.out
      injection e1 with e1
      subst e1
      have fe : bE.toList.isEmpty = false := by simp [ByteArray.toList_eq, bE]
      go_wp2_with fail
      go_meet
      exact ⟨rfl, rfl⟩
    · obtain ⟨A1, c1, e1, e2⟩ := Sy.In_t HV.out
      injection e1 with e1
      subst e1
      have fe : bT.toList.isEmpty = false := by simp [ByteArray.toList_eq, bT]
      go_wp2_with fail
      go_meet
      exact ⟨rfl, rfl⟩
    · obtain ⟨bl, o1, c1, x0, x1, y0, y1, e1, -⟩ := Sy.In_fn HV.out
      injection e1 with e1
      subst e1
      have fe : bNil.toList.isEmpty = true := by simp [ByteArray.toList_eq, bNil]
      cases hd with
      | true =>
        go_wp2_with fail
        go_meet
        exact ⟨rfl, rfl⟩
      | false =>
        obtain rfl : kd = 3 := by
          rcases hk with hk | hk
          · exact hk
          · cases hk
        go_wp2_with fail
        go_meet
        exact ⟨rfl, rfl⟩
  case rest =>
  obtain ⟨rfl, hwq⟩ := hcut
  rename World => wq
  obtain rfl : wx = wq := hwq.symm
  have hrx := (HBX.out.block br hbl).trans HBR.out
  have hnx := (HBX.out.block bn hnl).trans HBN.out
  have w1 : IntKind.i64.wrap (r - 1) = r - 1 := wrap_ok _ (by have := HRLO.out; omega) (by omega)
  have b0 : br ≠ w.heap.size := by omega
  have b1 : br ≠ w.heap.size + 1 := by omega
  have b2 : br < wx.heap.size := by omega
  have b3 : bn < wx.heap.size := by omega
  have b4 : w.heap.size < wx.heap.size := by omega
  have b5 : w.heap.size + 1 < wx.heap.size := by omega
  clear ps_0 ps_1 ps_l e0 ls hbl1 hbl2
  have HNX := Lib.hid hnx
  clear hnx
  have hrx_0 := cv0 hrx
  have hrx_f0 := free_heap hrx 0
  have hrx_l := lt_heap hrx
  have HRX := Lib.hid hrx
  clear hrx
  go_upto_if 74 with (fail)
  refine gen_last (fun wz => Mods (fun b => b = bn ∨ b = br) w.heap.size w wz ∧ (wz.heap.size ≤ wx.heap.size + 1 ∧ wx.heap.size + 1 ≤ wz.heap.size) ∧ wz.heap[bn]? = some (.cells #[.int .i64 (n : Nat)] 3 (0, 0)) ∧ wz.heap[br]? = some (.cells #[.int .i64 (r - 1)] 3 (0, 0)) ∧
    wz.heap[w.heap.size]? = some (.cells #[.int .i64 kd, .int .i64 idn, .string nx, .string sa, .slice Aa na ca, .slice A x.kids.length c] 65 (0, 0)) ∧ wz.heap[w.heap.size + 1]? = some (.cells #[.int .i64 0, .int .i64 0, .string ⟨#[]⟩, .string ⟨#[]⟩, .slice none 0 0, .slice none 0 0] 65 (0, 0)) ∧ wz.heap[wx.heap.size]? = some (.cells #[.int .i64 kd, .int .i64 idn, .string nx, .string sa, .slice Aa na ca, .slice none 0 0] 65 (0, 0))) ?_ ?_
  · exact ⟨((Mods.below HBX.out).setP (Or.inr rfl) _).alloc (by simp [size_set]; omega) _, by simp [size_set], heap_old (by simp [size_set]; omega) (heap_far _ hne HNX.out), heap_old (by simp [size_set]; omega) (heap_set HRX.out 0 _), heap_old (by simp [size_set]; omega) (heap_far _ (Ne.symm b0) P0.out), heap_old (by simp [size_set]; omega) (heap_far _ (Ne.symm b1) P1.out), heap_at (by simp [size_set])⟩
  rintro wz ⟨hmz, zz, hnz, hrz, p0, p1, p2⟩
  have hSz : ∀ b, S b → wz.heap[b]? = w.heap[b]? := fun b hb => hmz.block b (HLO.out b hb).1 (by rintro (h1 | h1); exact (HLO.out b hb).2.1 h1; exact (HLO.out b hb).2.2 h1)
  clear p0_0 p0_1 p0_2 p0_3 p0_4 p0_5 p0_l hrx_0 hrx_f0 hrx_l w1
  have HMZ := Lib.hid hmz
  have HNZ := Lib.hid hnz
  have HRZ := Lib.hid hrz
  have P1 := Lib.hid p1
  have HSZ := Lib.hid hSz
  clear hmz hnz hrz p1 hSz
  have p2_0 := cv0 p2
  have p2_1 := cv1 p2
  have p2_2 := cv2 p2
  have p2_3 := cv3 p2
  have p2_4 := cv4 p2
  have p2_5 := cv5 p2
  have p2_l := lt_heap p2
  have P2 := Lib.hid p2
  clear p2
  have p0_0 := cv0 p0
  have p0_1 := cv1 p0
  have p0_2 := cv2 p0
  have p0_3 := cv3 p0
  have p0_4 := cv4 p0
  have p0_5 := cv5 p0
  have p0_l := lt_heap p0
  have P0 := Lib.hid p0
  clear p0
  go_cut [1] (fun s1 wy => KnAt wy (fun b => S b ∨ (wx.heap.size + 1 ≤ b ∧ b < wy.heap.size)) s1 (x.lenv e) ∧ Mods (fun b => b = bn ∨ b = br) w.heap.size w wy ∧ wx.heap.size + 1 ≤ wy.heap.size ∧ wy.heap[bn]? = some (.cells #[.int .i64 (n : Nat)] 3 (0, 0)) ∧ wy.heap[br]? = some (.cells #[.int .i64 (r - 1)] 3 (0, 0)) ∧
    wy.heap[w.heap.size]? = some (.cells #[.int .i64 kd, .int .i64 idn, .string nx, .string sa, .slice Aa na ca, .slice A x.kids.length c] 65 (0, 0)) ∧ wy.heap[w.heap.size + 1]? = some (.cells #[.int .i64 0, .int .i64 0, .string ⟨#[]⟩, .string ⟨#[]⟩, .slice none 0 0, .slice none 0 0] 65 (0, 0)) ∧ wy.heap[wx.heap.size]? = some (.cells #[.int .i64 kd, .int .i64 idn, .string nx, .string sa, .slice Aa na ca, .slice none 0 0] 65 (0, 0)))
  case first =>
    rcases hab with ⟨t3, i, tt, hle, rfl, rfl⟩ | ⟨t3, hle⟩
    · go_upto_region 14 with (fail)
      obtain ⟨i0, hi0, hz0, hz1, hz2⟩ := info_parts infoKnown
      obtain ⟨l, ha1, hn1, hl1, ho1⟩ := (HKN.out.keep (w' := wz) HSZ.out (fun _ h => h)).news
      have hc0 : wz.cell? ⟨w.heap.size, 0, none⟩ = _ ∧ wz.cell? ⟨w.heap.size, 1, none⟩ = _ ∧ wz.cell? ⟨w.heap.size, 2, none⟩ = _ ∧ wz.cell? ⟨w.heap.size, 3, none⟩ = _ ∧ wz.cell? ⟨w.heap.size, 4, none⟩ = _ ∧ wz.cell? ⟨w.heap.size, 5, none⟩ = _ := ⟨p0_0, p0_1, p0_2, p0_3, p0_4, p0_5⟩
      have lX : w.heap.size < wz.heap.size := p0_l
      simp only [t3]
      clear p0_0 p0_1 p0_2 p0_3 p0_4 p0_5 p0_l p2_0 p2_1 p2_2 p2_3 p2_4 p2_5 p2_l
      have HC0 := Lib.hid hc0
      have HA1 := Lib.hid ha1
      have HN1 := Lib.hid hn1
      have HL1 := Lib.hid hl1
      have HO1 := Lib.hid ho1
      have HLE := Lib.hid hle
      clear hc0 ha1 hn1 hl1 ho1 hle
      refine wp_region_frame [75, 76, 77, 78, 79, 80, 81, 82, 83, 84, 1] (LJx (.pointer (some ⟨w.heap.size, 1, none⟩)) (.int .i64 (i : Int)) (.pointer (some ⟨w.heap.size, 3, none⟩)) (.agg #[.string sa, .slice Aa na ca]) (.agg #[.int .i64 (i : Int), .string sa, .slice Aa na ca]) (.slice Au e.length cu) wz e.length l [.int .i64 (i : Int), .string sa, .slice Aa na ca]) (by kernel_rfl) (by kernel_rfl) ?h0 ?hend ?hstep
      case h0 =>
        intro f xs hf hx hw
        obtain ⟨x0, x1, x2, x3, x4, x5, x6, x7, x8, x9, xt, rfl⟩ := lenL hx
        simp [withs, Act.put] at hw
        exact (LJ.start hf (Below.refl _ wz).drew (by simp [hw])).mk_
      case hend =>
        rintro f xs W hf ⟨x0, x1, x2, x3, x4, x5, x6, x7, x8, x9, xt, rfl, hJ⟩
        obtain ⟨A2, c2, rfl, ho, hbl2⟩ := hJ.fin hf
        clear hf hJ
        simp only [withs, Act.put, List.setIfInBounds_toArray, List.set_cons_succ, List.set_cons_zero]
        go_wp2_with fail
        go_meet
        have hk4 := hbl2.block
        have zW := hbl2.size
        rw [HLE.out]
        refine ⟨KnAt.snoc (a := (i, tt)) HA1.out ⟨.string sa, .slice Aa na ca, rfl, Ty.In_keep (fun b hb => (hk4 b (by have := (HLO.out b hb).1; omega)).trans (HSZ.out b hb)) (fun b hb => Or.inl hb) _ _ _ HTY.out⟩ (fun b hb => hk4 b (by have := (HLO.out b hb).1; omega)) (fun b hb => Or.inl hb) ho rfl (by unfold maxLen; omega) (fun g h1 h2 => Or.inr ⟨by omega, h2⟩), HMZ.out.thenBelow (hbl2.mono (by omega)), by omega, (hk4 _ (by omega)).trans HNZ.out, (hk4 _ (by omega)).trans HRZ.out, (hk4 _ (by omega)).trans P0.out, (hk4 _ (by omega)).trans P1.out, (hk4 _ (by omega)).trans P2.out⟩
      case hstep =>
        rintro io hi f xs W hn hp ⟨x0, x1, x2, x3, x4, x5, x6, x7, x8, x9, xt, rfl, hJ⟩
        have hi : io < 11 := hi
        rcases (by omega : io = 0 ∨ io = 1 ∨ io = 2 ∨ io = 3 ∨ io = 4 ∨ io = 5 ∨ io = 6 ∨ io = 7 ∨ io = 8 ∨ io = 9 ∨ io = 10) with rfl | rfl | rfl | rfl | rfl | rfl | rfl | rfl | rfl | rfl | rfl
        · skip
          refine wpOp_run rfl (by rfl) (fun K hK => ?_)
          simp only [withs, Act.put, List.setIfInBounds_toArray, List.set_cons_succ, List.set_cons_zero]
          go_simp
          exact hK _ _ ⟨[(.slice (some ⟨W.heap.size, 0, none⟩) 0 0), x1, x2, x3, x4, x5, x6, x7, x8, x9, xt], (by simp only [withs, Act.put, List.setIfInBounds_toArray, List.set_cons_succ, List.set_cons_zero]), (hJ.st0).mk_⟩
        · obtain ⟨rfl, hJ2⟩ := hJ.st1 hn
          refine wpOp_run rfl (by rfl) (fun K hK => ?_)
          simp only [withs, Act.put, List.setIfInBounds_toArray, List.set_cons_succ, List.set_cons_zero]
          go_simp
          exact hK _ _ ⟨[x0, (.slice Au e.length cu), x2, x3, x4, x5, x6, x7, x8, x9, (.slice Au e.length cu)], (by simp only [withs, Act.put, List.setIfInBounds_toArray, List.set_cons_succ, List.set_cons_zero]), (hJ2).mk_⟩
        · obtain ⟨g, rfl, rfl, ho, hk⟩ := LJ.st2 (by simp) hJ (hp 0 (of_decide_eq_true (by kernel_rfl))) (hp 1 (of_decide_eq_true (by kernel_rfl))) hn
          refine wpOp_run rfl (by rfl) (fun K hK => ?_)
          simp only [withs, Act.put, List.setIfInBounds_toArray, List.set_cons_succ, List.set_cons_zero]
          refine step_wp (by rfl) ?_
          refine step_append_all _ (by rfl) (.tmp 75) (.tmp 76) _ (by rfl) wz.heap.size 99 i0 _ 3 48 Tryd.underlying96 hi0 hz0 hz1 hz2 rfl (by omega) _ 0 [] (by rfl) ho _ e.length l (by rfl) HL1.out (HN1.out.to (fun b hb => hJ.below.block b (by have := (HLO.out b hb).1; omega))) HO1.out (by unfold maxLen; omega) (by omega) hJ.below.size _ rfl e.length (by omega) ?_
          intro A' c' W' k1 k2 k3
          exact hK _ _ ⟨[(.slice (some ⟨g, 0, none⟩) 0 0), (.slice Au e.length cu), (.slice A' e.length c'), x3, x4, x5, x6, x7, x8, x9, xt], (by show Act.put _ (some 77) _ = _; simp only [withs, Act.put, List.setIfInBounds_toArray, List.set_cons_succ, List.set_cons_zero]), (hk A' c' W' k1 k2).mk_⟩
        · skip
          refine wpOp_run rfl (by rfl) (fun K hK => ?_)
          simp only [withs, Act.put, List.setIfInBounds_toArray, List.set_cons_succ, List.set_cons_zero]
          go_simp
          exact hK _ _ ⟨[x0, x1, x2, (.pointer (some ⟨w.heap.size, 1, none⟩)), x4, x5, x6, x7, x8, x9, xt], (by simp only [withs, Act.put, List.setIfInBounds_toArray, List.set_cons_succ, List.set_cons_zero]), (hJ.st3).mk_⟩
        · obtain rfl := hJ.h3 (hp 3 (of_decide_eq_true (by kernel_rfl)))
          obtain ⟨e0, e1, e2, e3, e4, e5⟩ := keepN6 (hJ.below.block _ lX) HC0.out
          have lW : w.heap.size < W.heap.size := Nat.lt_of_lt_of_le lX hJ.below.size
          refine wpOp_run rfl (by rfl) (fun K hK => ?_)
          simp only [withs, Act.put, List.setIfInBounds_toArray, List.set_cons_succ, List.set_cons_zero]
          go_simp
          exact hK _ _ ⟨[x0, x1, x2, (.pointer (some ⟨w.heap.size, 1, none⟩)), (.int .i64 (i : Int)), x5, x6, x7, x8, x9, xt], (by simp only [withs, Act.put, List.setIfInBounds_toArray, List.set_cons_succ, List.set_cons_zero]), (hJ.st4).mk_⟩
        · skip
          refine wpOp_run rfl (by rfl) (fun K hK => ?_)
          simp only [withs, Act.put, List.setIfInBounds_toArray, List.set_cons_succ, List.set_cons_zero]
          go_simp
          exact hK _ _ ⟨[x0, x1, x2, x3, x4, (.pointer (some ⟨w.heap.size, 3, none⟩)), x6, x7, x8, x9, xt], (by simp only [withs, Act.put, List.setIfInBounds_toArray, List.set_cons_succ, List.set_cons_zero]), (hJ.st5).mk_⟩
        · obtain rfl := hJ.h5 (hp 5 (of_decide_eq_true (by kernel_rfl)))
          obtain ⟨e0, e1, e2, e3, e4, e5⟩ := keepN6 (hJ.below.block _ lX) HC0.out
          have lW : w.heap.size < W.heap.size := Nat.lt_of_lt_of_le lX hJ.below.size
          refine wpOp_run rfl (by rfl) (fun K hK => ?_)
          simp only [withs, Act.put, List.setIfInBounds_toArray, List.set_cons_succ, List.set_cons_zero]
          go_simp
          exact hK _ _ ⟨[x0, x1, x2, x3, x4, (.pointer (some ⟨w.heap.size, 3, none⟩)), (.agg #[.string sa, .slice Aa na ca]), x7, x8, x9, xt], (by simp only [withs, Act.put, List.setIfInBounds_toArray, List.set_cons_succ, List.set_cons_zero]), (hJ.st6).mk_⟩
        · obtain rfl := hJ.h4 (hp 4 (of_decide_eq_true (by kernel_rfl)))
          obtain rfl := hJ.h6 (hp 6 (of_decide_eq_true (by kernel_rfl)))
          refine wpOp_run rfl (by rfl) (fun K hK => ?_)
          simp only [withs, Act.put, List.setIfInBounds_toArray, List.set_cons_succ, List.set_cons_zero]
          go_simp
          exact hK _ _ ⟨[x0, x1, x2, x3, (.int .i64 (i : Int)), x5, (.agg #[.string sa, .slice Aa na ca]), (.agg #[.int .i64 (i : Int), .string sa, .slice Aa na ca]), x8, x9, xt], (by simp only [withs, Act.put, List.setIfInBounds_toArray, List.set_cons_succ, List.set_cons_zero]), (hJ.st7).mk_⟩
        · obtain rfl := hJ.h7 (hp 7 (of_decide_eq_true (by kernel_rfl)))
          refine wpOp_run rfl (by rfl) (fun K hK => ?_)
          simp only [withs, Act.put, List.setIfInBounds_toArray, List.set_cons_succ, List.set_cons_zero]
          go_simp
          exact hK _ _ ⟨[x0, x1, x2, x3, x4, x5, x6, (.agg #[.int .i64 (i : Int), .string sa, .slice Aa na ca]), (.slice (some ⟨W.heap.size, 0, none⟩) 1 1), x9, xt], (by simp only [withs, Act.put, List.setIfInBounds_toArray, List.set_cons_succ, List.set_cons_zero]), (hJ.st8).mk_⟩
        · obtain ⟨A2, c2, g, rfl, ho, rfl, hh, hk⟩ := hJ.st9 (hp 2 (of_decide_eq_true (by kernel_rfl))) (hp 8 (of_decide_eq_true (by kernel_rfl))) hn
          refine wpOp_run rfl (by rfl) (fun K hK => ?_)
          simp only [withs, Act.put, List.setIfInBounds_toArray, List.set_cons_succ, List.set_cons_zero]
          refine step_wp (by rfl) ?_
          refine step_append_all _ (by rfl) (.tmp 77) (.tmp 83) _ (by rfl) wz.heap.size 99 i0 _ 3 48 Tryd.underlying96 hi0 hz0 hz1 hz2 rfl (by omega) _ e.length ([] ++ l) (by rfl) ho _ 1 [.int .i64 (i : Int), .string sa, .slice Aa na ca] (by rfl) rfl (Or.inr ⟨_, _, rfl, World.news_of_block (cs := #[.int .i64 (i : Int), .string sa, .slice Aa na ca]) hh⟩) (by simp [Value.oneCell']) (by unfold maxLen; omega) (by omega) hJ.below.size _ rfl (e.length + 1) rfl ?_
          intro A' c' W' k1 k2 k3
          exact hK _ _ ⟨[x0, x1, (.slice A2 e.length c2), x3, x4, x5, x6, x7, (.slice (some ⟨g, 0, none⟩) 1 1), (.slice A' (e.length + 1) c'), xt], (by show Act.put _ (some 84) _ = _; simp only [withs, Act.put, List.setIfInBounds_toArray, List.set_cons_succ, List.set_cons_zero]), (hk A' c' W' k1 k2).mk_⟩
        · skip
          refine wpOp_run rfl (by rfl) (fun K hK => ?_)
          simp only [withs, Act.put, List.setIfInBounds_toArray, List.set_cons_succ, List.set_cons_zero]
          go_simp
          exact hK _ _ ⟨[x0, x1, x2, x3, x4, x5, x6, x7, x8, x9, x9], (by simp only [withs, Act.put, List.setIfInBounds_toArray, List.set_cons_succ, List.set_cons_zero]), (hJ.st10 (hp 9 (of_decide_eq_true (by kernel_rfl)))).mk_⟩
    · go_wp2_with fail
      go_meet
      rw [hle]
      exact ⟨HKN.out.keep HSZ.out (fun b hb => Or.inl hb), HMZ.out, by omega, HNZ.out, HRZ.out, P0.out, P1.out, P2.out⟩
  case rest =>
  obtain ⟨hkny, hmy, zy, hny, hry, p0, p1, p2⟩ := hcut
  rename World => wy
  have hSy : ∀ b, S b → wy.heap[b]? = w.heap[b]? := fun b hb => hmy.block b (HLO.out b hb).1 (by rintro (h1 | h1); exact (HLO.out b hb).2.1 h1; exact (HLO.out b hb).2.2 h1)
  obtain ⟨i0, hi0, hz0, hz1, hz2⟩ := info_parts infoNamed
  have hty2 := HTY.out.keep hSy
  clear p0_0 p0_1 p0_2 p0_3 p0_4 p0_5 p0_l p2_0 p2_1 p2_2 p2_3 p2_4 p2_5 p2_l hab
  have HKNY := Lib.hid hkny
  have HMY := Lib.hid hmy
  have HNY := Lib.hid hny
  have HRY := Lib.hid hry
  have P1 := Lib.hid p1
  have HSY := Lib.hid hSy
  have P2 := Lib.hid p2
  have HTY2 := Lib.hid hty2
  clear hkny hmy hny hry p1 hSy p2 hty2
  have p0_0 := cv0 p0
  have p0_1 := cv1 p0
  have p0_2 := cv2 p0
  have p0_3 := cv3 p0
  have p0_4 := cv4 p0
  have p0_5 := cv5 p0
  have p0_l := lt_heap p0
  have P0 := Lib.hid p0
  clear p0
  go_wp2_with fail
  go_loopg [88] x.kids.length (fun g vi wr => ∃ (j : Nat) (q : Value), j + g = x.kids.length ∧ vi = .int .i64 j ∧
    (wr.heap[w.heap.size]? = some (.cells #[.int .i64 kd, .int .i64 idn, .string nx, .string sa, .slice Aa na ca, .slice A x.kids.length c] 65 (0, 0)) ∧ wr.heap[w.heap.size + 1]? = some (.cells #[.int .i64 0, .int .i64 0, .string ⟨#[]⟩, .string ⟨#[]⟩, .slice none 0 0, .slice none 0 0] 65 (0, 0)) ∧ wr.heap[wx.heap.size]? = some (.cells #[.int .i64 kd, .int .i64 idn, .string nx, .string sa, .slice Aa na ca, q] 65 (0, 0))) ∧
    nmRep.Own 65 wy.heap.size wr (New (fun b => S b ∨ (wx.heap.size + 1 ≤ b ∧ b < wy.heap.size)) wy.heap.size wr) q ((thr (longF k (x.lenv e)) (x.kidsH.take j) (n, r - 1)).1.map Nm.tr) ∧
    wr.heap[bn]? = some (.cells #[.int .i64 ((thr (longF k (x.lenv e)) (x.kidsH.take j) (n, r - 1)).2.1 : Nat)] 3 (0, 0)) ∧
    wr.heap[br]? = some (.cells #[.int .i64 (thr (longF k (x.lenv e)) (x.kidsH.take j) (n, r - 1)).2.2] 3 (0, 0)) ∧
    KnAt wr (fun b => S b ∨ (wx.heap.size + 1 ≤ b ∧ b < wy.heap.size)) u1 (x.lenv e) ∧ Mods (fun b => b = bn ∨ b = br) w.heap.size w wr ∧ wy.heap.size ≤ wr.heap.size)
  case atStart =>
    exact ⟨0, .slice none 0 0, by omega, rfl, ⟨P0.out, P1.out, P2.out⟩, by simpa [thr] using Rep.Own.nil, by simpa [thr] using HNY.out, by simpa [thr] using HRY.out, HKNY.out, HMY.out, Nat.le_refl _⟩
  case round =>
    obtain ⟨j, q, hj, rfl, ⟨p0, p1, p2⟩, hown, hnr, hrr, hknr, hmr, zr⟩ := hrel
    obtain ⟨Aq, cq, hq⟩ := hown.len
    have hlen : ((thr (longF k (x.lenv e)) (x.kidsH.take j) (n, r - 1)).1.map Nm.tr).length = j := by rw [List.length_map, thr_len]; have := HKL.out; simp; omega
    rw [hlen] at hq
    subst hq
    have hblk : ∀ b, (Value.slice Aq j cq).ownBlock = some b → wy.heap.size ≤ b ∧ b < wr.heap.size := hown.block
    have hkS : ∀ b, S b → wr.heap[b]? = w.heap[b]? := fun b hb => hmr.block b (HLO.out b hb).1 (by rintro (h1 | h1); exact (HLO.out b hb).2.1 h1; exact (HLO.out b hb).2.2 h1)
    clear p0_0 p0_1 p0_2 p0_3 p0_4 p0_5 p0_l
    have HOWN := Lib.hid hown
    have HNR := Lib.hid hnr
    have HRR := Lib.hid hrr
    have HKNR := Lib.hid hknr
    have HMR := Lib.hid hmr
    have HLEN := Lib.hid hlen
    have HBLK := Lib.hid hblk
    have HKS := Lib.hid hkS
    clear hown hnr hrr hknr hmr hlen hblk hkS
    have p0_0 := cv0 p0
    have p0_1 := cv1 p0
    have p0_2 := cv2 p0
    have p0_3 := cv3 p0
    have p0_4 := cv4 p0
    have p0_5 := cv5 p0
    have p0_l := lt_heap p0
    have P0 := Lib.hid p0
    clear p0
    have p1_0 := cv0 p1
    have p1_1 := cv1 p1
    have p1_2 := cv2 p1
    have p1_3 := cv3 p1
    have p1_4 := cv4 p1
    have p1_5 := cv5 p1
    have p1_f0 := free_heap p1 0
    have p1_f1 := free_heap p1 1
    have p1_f2 := free_heap p1 2
    have p1_f3 := free_heap p1 3
    have p1_f4 := free_heap p1 4
    have p1_f5 := free_heap p1 5
    have p1_l := lt_heap p1
    have P1 := Lib.hid p1
    clear p1
    have p2_0 := cv0 p2
    have p2_1 := cv1 p2
    have p2_2 := cv2 p2
    have p2_3 := cv3 p2
    have p2_4 := cv4 p2
    have p2_5 := cv5 p2
    have p2_f0 := free_heap p2 0
    have p2_f1 := free_heap p2 1
    have p2_f2 := free_heap p2 2
    have p2_f3 := free_heap p2 3
    have p2_f4 := free_heap p2 4
    have p2_f5 := free_heap p2 5
    have p2_l := lt_heap p2
    have P2 := Lib.hid p2
    clear p2
    by_cases hjl : j < x.kids.length
    · obtain ⟨b, o, kc, rfl, hSb, hkr, hkc⟩ := Rep.Sl.at_ HL.out (k := j) (a := x.kids[j].tr) (by simp [hjl])
      obtain ⟨s1, A1, n1, c1, B1, m1, d1, rfl, _, _⟩ := Nt.shape hkr
      have hk := HKS.out b hSb
      have e0 : wr.cell? ⟨b, o + j * 6, none⟩ = _ := (cell_keep hk _).trans (hkc 0 _ rfl)
      have e1 : wr.cell? ⟨b, o + j * 6 + 1, none⟩ = _ := (cell_keep hk _).trans (hkc 1 _ rfl)
      have e2 : wr.cell? ⟨b, o + j * 6 + 2, none⟩ = _ := (cell_keep hk _).trans (hkc 2 _ rfl)
      have e3 : wr.cell? ⟨b, o + j * 6 + 3, none⟩ = _ := (cell_keep hk _).trans (hkc 3 _ rfl)
      have e4 : wr.cell? ⟨b, o + j * 6 + 4, none⟩ = _ := (cell_keep hk _).trans (hkc 4 _ rfl)
      have e5 : wr.cell? ⟨b, o + j * 6 + 5, none⟩ = _ := (cell_keep hk _).trans (hkc 5 _ rfl)
      have hSbb := (HLO.out b hSb).1
      have zb : b < wr.heap.size := by omega
      have q0 : (0 : Int) ≤ (j : Int) := by omega
      have q1 : (j : Int) < (x.kids.length : Int) := by omega
      have hjH : j < x.kidsH.length := by have := HKL.out; omega
      obtain ⟨s', hpu⟩ := HKID.out j hjH
      have hpj : x.kidsH[j] = (x.kids[j], decide (kd = 4) && decide (j = 0)) := Prod.ext (HKAT.out j hjH).1 (HKAT.out j hjH).2
      have hth := thr_take (longF k (x.lenv e)) hjH (n, r - 1)
      rw [hpj] at hth hpu
      simp only at hpu
      generalize hTj : thr (longF k (x.lenv e)) (x.kidsH.take j) (n, r - 1) = Tj at *
      have hS2 : ∀ b, (S b ∨ (wx.heap.size + 1 ≤ b ∧ b < wy.heap.size)) → b < wr.heap.size ∧ b ≠ bn ∧ b ≠ br := by
        rintro b (hb | hb)
        · have := HLO.out b hb; exact ⟨by omega, this.2⟩
        · exact ⟨by omega, by omega, by omega⟩
      have hih := IH.out x.kids[j] (x.lenv e) s' (decide (kd = 4) && decide (j = 0)) Tj.2.1 Tj.2.2 [.int .i64 x.kids[j].tr.lab.kind, .int .i64 x.kids[j].tr.lab.id, .string x.kids[j].tr.lab.nm, .string s1, .slice A1 n1 c1, .slice B1 m1 d1] u1 wr.drew (fun b => S b ∨ (wx.heap.size + 1 ≤ b ∧ b < wy.heap.size)) ⟨hpu, nmRep.keep hkr (fun b hb => HKS.out b hb) (fun _ h => Or.inl h), HKNR.out.keep (fun _ _ => rfl) (fun _ h => h), hS2, hne, HNR.out, HRR.out⟩
      have hk22 := HK2.out
      have wj : IntKind.i64.wrap ((j : Int) + 1) = (j : Int) + 1 := wrap_ok _ (by omega) (by omega)
      obtain ⟨B4, t4⟩ : ∃ B, (kd == 4) = B := ⟨_, rfl⟩
      obtain ⟨BJ, tj⟩ : ∃ B, ((j : Int) == 0) = B := ⟨_, rfl⟩
      have hbk : (decide (kd = 4) && decide (j = 0)) = (B4 && BJ) := by
        rw [← t4, ← tj]
        congr 1
        by_cases h2 : j = 0
        · subst h2; rfl
        · rw [decide_eq_false h2, eq_comm, beq_eq_false_iff_ne]; omega
      rw [hbk] at hih hth
      have c0 : w.heap.size ≠ bn := by omega
      have c1' : w.heap.size + 1 ≠ bn := by omega
      have c2 : wx.heap.size ≠ bn := by omega
      have hxc : wx.heap.size < wr.heap.size := p2_l
      have hxk : b ≠ bn ∧ b ≠ br := (HLO.out b hSb).2
      have HS2 := Lib.hid hS2
      have hn6 := fun (W : World) (T : Nat → Prop) (es : List Value) (h : nmRep.R W T (Nm.long k x.kids[j] (x.lenv e) (B4 && BJ) Tj.2.1 Tj.2.2).1.tr es) => Nt.shape h
      clear hkr hkc hk hpu hpj hS2 hbk
      have HIH := Lib.hid hih
      have HTH := Lib.hid hth
      have HN6 := Lib.hid hn6
      clear hih hth hn6
      go_wp2_with fail
      have hcc : wr.cell? ⟨b, o + j * 6, none⟩ = _ ∧ wr.cell? ⟨b, o + j * 6 + 1, none⟩ = _ ∧ wr.cell? ⟨b, o + j * 6 + 2, none⟩ = _ ∧ wr.cell? ⟨b, o + j * 6 + 3, none⟩ = _ ∧ wr.cell? ⟨b, o + j * 6 + 4, none⟩ = _ ∧ wr.cell? ⟨b, o + j * 6 + 5, none⟩ = _ := ⟨e0, e1, e2, e3, e4, e5⟩
      clear e0 e1 e2 e3 e4 e5 p0_0 p0_1 p0_2 p0_3 p0_4 p0_5 p0_l p1_0 p1_1 p1_2 p1_3 p1_4 p1_5 p1_f0 p1_f1 p1_f2 p1_f3 p1_f4 p1_f5 p2_0 p2_1 p2_2 p2_3 p2_4 p2_5 p2_f0 p2_f1 p2_f2 p2_f3 p2_f4 p2_f5 p2_l
      have HT4 := Lib.hid t4
      have HTJ2 := Lib.hid tj
      clear t4 tj
      have HCC := Lib.hid hcc
      clear hcc
      refine wp_region_frame [91, 92, 93, 94, 95, 96, 97, 98, 99, 100, 101, 102, 103, 104, 105, 106, 107, 108, 109, 110, 111] (RJx (.pointer (some ⟨wx.heap.size, 5, none⟩)) (.slice Aq j cq) (.pointer (some ⟨w.heap.size, 5, none⟩)) (.slice (some ⟨b, o, none⟩) x.kids.length c) (.int .i64 (j : Int)) (.pointer (some ⟨b, o + j * 6, none⟩)) (.agg #[.int .i64 x.kids[j].tr.lab.kind, .int .i64 x.kids[j].tr.lab.id, .string x.kids[j].tr.lab.nm, .string s1, .slice A1 n1 c1, .slice B1 m1 d1]) u1 (.pointer (some ⟨w.heap.size, 0, none⟩)) (.int .i64 kd) (.pointer (some ⟨bn, 0, none⟩)) (.pointer (some ⟨br, 0, none⟩)) B4 BJ j wx.heap.size wr
        (fun W3 es => nmRep.R W3 (Ex (fun b => S b ∨ (wx.heap.size + 1 ≤ b ∧ b < wy.heap.size)) wr.drew W3) (Nm.long k x.kids[j] (x.lenv e) (B4 && BJ) Tj.2.1 Tj.2.2).1.tr es ∧ W3.heap[bn]? = some (.cells #[.int .i64 ((Nm.long k x.kids[j] (x.lenv e) (B4 && BJ) Tj.2.1 Tj.2.2).2.1 : Nat)] 3 (0, 0)) ∧ W3.heap[br]? = some (.cells #[.int .i64 (Nm.long k x.kids[j] (x.lenv e) (B4 && BJ) Tj.2.1 Tj.2.2).2.2] 3 (0, 0)) ∧ Mods (fun b => b = bn ∨ b = br) wr.heap.size wr.drew W3)
        (fun W3 W4 es g cp => ∃ xs, nmRep.All W3 (fun b => New (fun b => S b ∨ (wx.heap.size + 1 ≤ b ∧ b < wy.heap.size)) wy.heap.size W3 b ∧ (Value.slice Aq j cq).ownBlock ≠ some b) (Tj.1.map Nm.tr) xs ∧ W4.ownsRow wy.heap.size 65 6 (.slice (some ⟨g, 0, none⟩) (j + 1) cp) (j + 1) (xs ++ es) ∧ (W3.alloc (.cells es.toArray 65)).grownBy W4 (Value.slice Aq j cq).ownBlock ∧ ((Value.slice Aq j cq).ownBlock = some g ∨ g = W3.heap.size + 1))
        (fun W => W.heap[w.heap.size]? = some (.cells #[.int .i64 kd, .int .i64 idn, .string nx, .string sa, .slice Aa na ca, .slice (some ⟨b, o, none⟩) x.kids.length c] 65 (0, 0)) ∧ W.heap[b]? = wr.heap[b]? ∧ wr.heap.size ≤ W.heap.size) (fun W => W.heap[wx.heap.size]? = some (.cells #[.int .i64 kd, .int .i64 idn, .string nx, .string sa, .slice Aa na ca, .slice Aq j cq] 65 (0, 0)))) (by kernel_rfl) (by kernel_rfl) ?h0 ?hend ?hstep
      case h0 =>
        intro f xs hf hx _
        obtain ⟨x0, x1, x2, x3, x4, x5, x6, x7, x8, x9, x10, x11, x12, x13, x14, x15, x16, x17, x18, x19, x20, rfl⟩ := lenR hx
        refine RJ.mk_ (w3 := wr) (w4 := wr) (ds := []) (gg := 0) (cap := 0) (RJ.start hf ?_ ?_)
        · exact ⟨P0.out, rfl, Nat.le_refl _⟩
        · exact P2.out
      case hend =>
        rintro f xs W hf ⟨x0, x1, x2, x3, x4, x5, x6, x7, x8, x9, x10, x11, x12, x13, x14, x15, x16, x17, x18, x19, x20, w3, w4, ds, gg, cap, rfl, hJ⟩
        obtain ⟨⟨hu, hcn, hcr, hm2⟩, -⟩ := hJ.m17 (hf 17 (by decide))
        obtain ⟨⟨xs, hall, hown3, hgrow, hat⟩, -⟩ := hJ.m19 (hf 19 (by decide))
        obtain rfl := hJ.w21 (hf 21 (by decide))
        clear hJ hf
        have HU := Lib.hid hu
        have HCN := Lib.hid hcn
        have HCR := Lib.hid hcr
        have HM2 := Lib.hid hm2
        have HALL := Lib.hid hall
        have HOWN3 := Lib.hid hown3
        have HGROW := Lib.hid hgrow
        have HAT := Lib.hid hat
        clear hu hcn hcr hm2 hall hown3 hgrow hat
        simp only [withs, Act.put, List.setIfInBounds_toArray, List.set_cons_succ, List.set_cons_zero]
        go_wp2_with fail
        go_roundg (x.kids.length - (j + 1))
        case measure => omega
        case rel =>
          have z3 : wr.heap.size ≤ w3.heap.size := HM2.out.size
          have z4 : w3.heap.size + 1 ≤ w4.heap.size := by have := HGROW.out.size; simpa using this
          have hstep := Rep.stepEx (E := 65) (S := fun b => S b ∨ (wx.heap.size + 1 ≤ b ∧ b < wy.heap.size)) (base := wy.heap.size) (a := (Nm.long k x.kids[j] (x.lenv e) (B4 && BJ) Tj.2.1 Tj.2.2).1.tr) HLEN.out (fun b hb => by rcases hb with hb | hb; have := (HLO.out b hb).1; omega; exact hb.2) (by omega) HALL.out HU.out (fun b hb => by
            rcases hb with hb | ⟨hb, hb'⟩
            · refine ⟨Or.inl hb, fun e => ?_⟩
              have h1 := (HBLK.out b e).1
              rcases hb with hb | hb
              · have := (HLO.out b hb).1; omega
              · omega
            · have h' : wr.heap.size ≤ b := hb
              exact ⟨Or.inr ⟨by omega, hb'⟩, fun e => by have := (HBLK.out b e).2; omega⟩) HOWN3.out HGROW.out HAT.out
          have kk : ∀ b, b < w3.heap.size → (Value.slice Aq j cq).ownBlock ≠ some b → w4.heap[b]? = w3.heap[b]? := fun b hb hne => (HGROW.out.block b (by simp; omega) (fun e => hne e.symm)).trans (heap_old hb rfl)
          have k4 : ∀ b, b < wy.heap.size → w4.heap[b]? = w3.heap[b]? := fun b hb => kk b (by omega) (fun e => by have := (HBLK.out b e).1; omega)
          have k3 : ∀ b, b < wr.heap.size → b ≠ bn → b ≠ br → w3.heap[b]? = wr.heap[b]? := fun b hb h1 h2 => HM2.out.block b hb (by rintro (h | h); exact h1 h; exact h2 h)
          have hm4 : Mods (fun b => b = bn ∨ b = br) w.heap.size w w4 := ((HMR.out.drew.trans (HM2.out.mono (B' := w.heap.size) (by omega))).alloc (by omega) _).grown HGROW.out (by simp; omega) (fun k hk => by have := (HBLK.out k hk).1; omega)
          have hkg : ∀ b, b ≠ wx.heap.size → (w4.setCell ⟨wx.heap.size, 5, none⟩ (.slice (some ⟨gg, 0, none⟩) (j + 1) cap)).heap[b]? = w4.heap[b]? := fun b hb => heap_far _ hb rfl
          have r2 := (k4 wx.heap.size (by omega)).trans ((k3 _ (by omega) (by omega) (by omega)).trans P2.out)
          refine ⟨j + 1, .slice (some ⟨gg, 0, none⟩) (j + 1) cap, by omega, by go_num, ⟨(hkg _ (by omega)).trans ((k4 _ (by omega)).trans ((k3 _ (by omega) (by omega) (by omega)).trans P0.out)), (hkg _ (by omega)).trans ((k4 _ (by omega)).trans ((k3 _ (by omega) (by omega) (by omega)).trans P1.out)), heap_set r2 5 _⟩, ?_, ?_, ?_, ?_, hm4.setCell (by simp; omega) _, by rw [size_set]; omega⟩
          · rw [HTH.out, List.map_append]
            exact hstep.growEx (fun b hb => hkg b (by rcases hb with hb | hb; have := (HLO.out b hb).1; omega; omega)) (fun b hb _ => hkg b (by omega)) (by rw [size_set]; omega)
          · rw [HTH.out]
            exact (hkg bn (by omega)).trans ((k4 bn (by omega)).trans HCN.out)
          · rw [HTH.out]
            exact (hkg br (by omega)).trans ((k4 br (by omega)).trans HCR.out)
          · exact HKNR.out.keep (fun b hb => by
              have h1 := HS2.out b hb
              have h2 : b < wy.heap.size := by
                rcases hb with hb | hb
                · have := (HLO.out b hb).1; omega
                · exact hb.2
              have h3 : b ≠ wx.heap.size := by
                rcases hb with hb | hb
                · have := (HLO.out b hb).1; omega
                · omega
              exact (hkg b h3).trans ((k4 b h2).trans (k3 b h1.1 h1.2.1 h1.2.2))) (fun _ h => h)
      case hstep =>
        rintro io hi f xs W hn hp ⟨x0, x1, x2, x3, x4, x5, x6, x7, x8, x9, x10, x11, x12, x13, x14, x15, x16, x17, x18, x19, x20, w3, w4, ds, gg, cap, rfl, hJ⟩
        have hi : io < 22 := hi
        obtain ⟨hbx, hbb, zW⟩ := hJ.bx
        rcases (by omega : io = 0 ∨ io = 1 ∨ io = 2 ∨ io = 3 ∨ io = 4 ∨ io = 5 ∨ io = 6 ∨ io = 7 ∨ io = 8 ∨ io = 9 ∨ io = 10 ∨ io = 11 ∨ io = 12 ∨ io = 13 ∨ io = 14 ∨ io = 15 ∨ io = 16 ∨ io = 17 ∨ io = 18 ∨ io = 19 ∨ io = 20 ∨ io = 21) with rfl | rfl | rfl | rfl | rfl | rfl | rfl | rfl | rfl | rfl | rfl | rfl | rfl | rfl | rfl | rfl | rfl | rfl | rfl | rfl | rfl | rfl
        · skip
          refine wpOp_run rfl (by rfl) (fun K hK => ?_)
          simp only [withs, Act.put, List.setIfInBounds_toArray, List.set_cons_succ, List.set_cons_zero]
          go_simp
          exact hK _ _ ⟨[(.pointer (some ⟨wx.heap.size, 5, none⟩)), x1, x2, x3, x4, x5, x6, x7, x8, x9, x10, x11, x12, x13, x14, x15, x16, x17, x18, x19, x20], (by simp only [withs, Act.put, List.setIfInBounds_toArray, List.set_cons_succ, List.set_cons_zero]), (hJ.st0).mk_⟩
        · obtain rfl := hJ.h0 (hp 0 (of_decide_eq_true (by kernel_rfl)))
          have h21 : f 21 = false := hJ.no21 (by cases e19 : f 19 with | false => rfl | true => exact ljf hn (hJ.q19_1 e19))
          have hy := hJ.b_y h21
          have hy5 := cv5 hy
          have hyl := lt_heap hy
          refine wpOp_run rfl (by rfl) (fun K hK => ?_)
          simp only [withs, Act.put, List.setIfInBounds_toArray, List.set_cons_succ, List.set_cons_zero]
          go_simp
          exact hK _ _ ⟨[(.pointer (some ⟨wx.heap.size, 5, none⟩)), (.slice Aq j cq), x2, x3, x4, x5, x6, x7, x8, x9, x10, x11, x12, x13, x14, x15, x16, x17, x18, x19, x20], (by simp only [withs, Act.put, List.setIfInBounds_toArray, List.set_cons_succ, List.set_cons_zero]), (hJ.st1).mk_⟩
        · skip
          refine wpOp_run rfl (by rfl) (fun K hK => ?_)
          simp only [withs, Act.put, List.setIfInBounds_toArray, List.set_cons_succ, List.set_cons_zero]
          go_simp
          exact hK _ _ ⟨[x0, x1, (.pointer (some ⟨w.heap.size, 5, none⟩)), x3, x4, x5, x6, x7, x8, x9, x10, x11, x12, x13, x14, x15, x16, x17, x18, x19, x20], (by simp only [withs, Act.put, List.setIfInBounds_toArray, List.set_cons_succ, List.set_cons_zero]), (hJ.st2).mk_⟩
        · obtain rfl := hJ.h2 (hp 2 (of_decide_eq_true (by kernel_rfl)))
          have hx0 := cv0 hbx
          have hx5 := cv5 hbx
          have hxl := lt_heap hbx
          refine wpOp_run rfl (by rfl) (fun K hK => ?_)
          simp only [withs, Act.put, List.setIfInBounds_toArray, List.set_cons_succ, List.set_cons_zero]
          go_simp
          exact hK _ _ ⟨[x0, x1, (.pointer (some ⟨w.heap.size, 5, none⟩)), (.slice (some ⟨b, o, none⟩) x.kids.length c), x4, x5, x6, x7, x8, x9, x10, x11, x12, x13, x14, x15, x16, x17, x18, x19, x20], (by simp only [withs, Act.put, List.setIfInBounds_toArray, List.set_cons_succ, List.set_cons_zero]), (hJ.st3).mk_⟩
        · skip
          refine wpOp_run rfl (by rfl) (fun K hK => ?_)
          simp only [withs, Act.put, List.setIfInBounds_toArray, List.set_cons_succ, List.set_cons_zero]
          go_simp
          exact hK _ _ ⟨[x0, x1, x2, x3, (.int .i64 (j : Int)), x5, x6, x7, x8, x9, x10, x11, x12, x13, x14, x15, x16, x17, x18, x19, x20], (by simp only [withs, Act.put, List.setIfInBounds_toArray, List.set_cons_succ, List.set_cons_zero]), (hJ.st4).mk_⟩
        · obtain rfl := hJ.h3 (hp 3 (of_decide_eq_true (by kernel_rfl)))
          obtain rfl := hJ.h4 (hp 4 (of_decide_eq_true (by kernel_rfl)))
          refine wpOp_run rfl (by rfl) (fun K hK => ?_)
          simp only [withs, Act.put, List.setIfInBounds_toArray, List.set_cons_succ, List.set_cons_zero]
          go_simp
          exact hK _ _ ⟨[x0, x1, x2, (.slice (some ⟨b, o, none⟩) x.kids.length c), (.int .i64 (j : Int)), (.pointer (some ⟨b, o + j * 6, none⟩)), x6, x7, x8, x9, x10, x11, x12, x13, x14, x15, x16, x17, x18, x19, x20], (by simp only [withs, Act.put, List.setIfInBounds_toArray, List.set_cons_succ, List.set_cons_zero]), (hJ.st5).mk_⟩
        · obtain rfl := hJ.h5 (hp 5 (of_decide_eq_true (by kernel_rfl)))
          obtain ⟨e0, e1, e2, e3, e4, e5⟩ := keepN6o hbb HCC.out
          have lW : b < W.heap.size := by omega
          refine wpOp_run rfl (by rfl) (fun K hK => ?_)
          simp only [withs, Act.put, List.setIfInBounds_toArray, List.set_cons_succ, List.set_cons_zero]
          go_simp
          exact hK _ _ ⟨[x0, x1, x2, x3, x4, (.pointer (some ⟨b, o + j * 6, none⟩)), (.agg #[.int .i64 x.kids[j].tr.lab.kind, .int .i64 x.kids[j].tr.lab.id, .string x.kids[j].tr.lab.nm, .string s1, .slice A1 n1 c1, .slice B1 m1 d1]), x7, x8, x9, x10, x11, x12, x13, x14, x15, x16, x17, x18, x19, x20], (by simp only [withs, Act.put, List.setIfInBounds_toArray, List.set_cons_succ, List.set_cons_zero]), (hJ.st6).mk_⟩
        · skip
          refine wpOp_run rfl (by rfl) (fun K hK => ?_)
          simp only [withs, Act.put, List.setIfInBounds_toArray, List.set_cons_succ, List.set_cons_zero]
          go_simp
          exact hK _ _ ⟨[x0, x1, x2, x3, x4, x5, x6, (u1), x8, x9, x10, x11, x12, x13, x14, x15, x16, x17, x18, x19, x20], (by simp only [withs, Act.put, List.setIfInBounds_toArray, List.set_cons_succ, List.set_cons_zero]), (hJ.st7).mk_⟩
        · skip
          refine wpOp_run rfl (by rfl) (fun K hK => ?_)
          simp only [withs, Act.put, List.setIfInBounds_toArray, List.set_cons_succ, List.set_cons_zero]
          go_simp
          exact hK _ _ ⟨[x0, x1, x2, x3, x4, x5, x6, x7, (.pointer (some ⟨w.heap.size, 0, none⟩)), x9, x10, x11, x12, x13, x14, x15, x16, x17, x18, x19, x20], (by simp only [withs, Act.put, List.setIfInBounds_toArray, List.set_cons_succ, List.set_cons_zero]), (hJ.st8).mk_⟩
        · obtain rfl := hJ.h8 (hp 8 (of_decide_eq_true (by kernel_rfl)))
          have hx0 := cv0 hbx
          have hx5 := cv5 hbx
          have hxl := lt_heap hbx
          refine wpOp_run rfl (by rfl) (fun K hK => ?_)
          simp only [withs, Act.put, List.setIfInBounds_toArray, List.set_cons_succ, List.set_cons_zero]
          go_simp
          exact hK _ _ ⟨[x0, x1, x2, x3, x4, x5, x6, x7, (.pointer (some ⟨w.heap.size, 0, none⟩)), (.int .i64 kd), x10, x11, x12, x13, x14, x15, x16, x17, x18, x19, x20], (by simp only [withs, Act.put, List.setIfInBounds_toArray, List.set_cons_succ, List.set_cons_zero]), (hJ.st9).mk_⟩
        · obtain rfl := hJ.h9 (hp 9 (of_decide_eq_true (by kernel_rfl)))
          have t4 := HT4.out
          refine wpOp_run rfl (by rfl) (fun K hK => ?_)
          simp only [withs, Act.put, List.setIfInBounds_toArray, List.set_cons_succ, List.set_cons_zero]
          go_simp
          exact hK _ _ ⟨[x0, x1, x2, x3, x4, x5, x6, x7, x8, (.int .i64 kd), (.bool B4), x11, x12, x13, x14, x15, x16, x17, x18, x19, x20], (by simp only [withs, Act.put, List.setIfInBounds_toArray, List.set_cons_succ, List.set_cons_zero]), (hJ.st10).mk_⟩
        · obtain rfl := hJ.h10 (hp 10 (of_decide_eq_true (by kernel_rfl)))
          refine wpOp_run rfl (by rfl) (fun K hK => ?_)
          simp only [withs, Act.put, List.setIfInBounds_toArray, List.set_cons_succ, List.set_cons_zero]
          go_simp
          exact hK _ _ ⟨[x0, x1, x2, x3, x4, x5, x6, x7, x8, x9, (.bool B4), (.bool B4), x12, x13, x14, x15, x16, x17, x18, x19, x20], (by simp only [withs, Act.put, List.setIfInBounds_toArray, List.set_cons_succ, List.set_cons_zero]), (hJ.st11).mk_⟩
        · obtain rfl := hJ.h11 (hp 11 (of_decide_eq_true (by kernel_rfl)))
          cases B4 with
          | true =>
            simp only [withs, Act.put, List.setIfInBounds_toArray, List.set_cons_succ, List.set_cons_zero]
            refine wpOp_want rfl (by rfl) (fun K hK => ?_)
            go_simp
            exact hK _ _ ⟨[x0, x1, x2, x3, x4, x5, x6, x7, x8, x9, x10, (.bool true), (.int .i64 (j : Int)), x13, x14, x15, x16, x17, x18, x19, x20], (by simp only [withs, Act.put, List.setIfInBounds_toArray, List.set_cons_succ, List.set_cons_zero]), (hJ.st12 (fun _ => rfl)).mk_⟩
          | false =>
            simp only [withs, Act.put, List.setIfInBounds_toArray, List.set_cons_succ, List.set_cons_zero]
            exact wpOp_skip rfl (by rfl) ⟨[x0, x1, x2, x3, x4, x5, x6, x7, x8, x9, x10, (.bool false), undef, x13, x14, x15, x16, x17, x18, x19, x20], (by show Act.put _ (some 103) _ = _; simp only [withs, Act.put, List.setIfInBounds_toArray, List.set_cons_succ, List.set_cons_zero]), (hJ.st12 (fun e => by cases e)).mk_⟩
        · obtain rfl := hJ.h11 (hp 11 (of_decide_eq_true (by kernel_rfl)))
          cases B4 with
          | true =>
            obtain rfl := hJ.h12 (hp 12 (of_decide_eq_true (by kernel_rfl))) rfl
            have tj := HTJ2.out
            simp only [withs, Act.put, List.setIfInBounds_toArray, List.set_cons_succ, List.set_cons_zero]
            refine wpOp_want rfl (by rfl) (fun K hK => ?_)
            go_simp
            exact hK _ _ ⟨[x0, x1, x2, x3, x4, x5, x6, x7, x8, x9, x10, (.bool true), (.int .i64 (j : Int)), (.bool BJ), x14, x15, x16, x17, x18, x19, x20], (by simp only [withs, Act.put, List.setIfInBounds_toArray, List.set_cons_succ, List.set_cons_zero]), (hJ.st13 (fun _ => rfl)).mk_⟩
          | false =>
            simp only [withs, Act.put, List.setIfInBounds_toArray, List.set_cons_succ, List.set_cons_zero]
            exact wpOp_skip rfl (by rfl) ⟨[x0, x1, x2, x3, x4, x5, x6, x7, x8, x9, x10, (.bool false), x12, undef, x14, x15, x16, x17, x18, x19, x20], (by show Act.put _ (some 104) _ = _; simp only [withs, Act.put, List.setIfInBounds_toArray, List.set_cons_succ, List.set_cons_zero]), (hJ.st13 (fun e => by cases e)).mk_⟩
        · obtain rfl := hJ.h11 (hp 11 (of_decide_eq_true (by kernel_rfl)))
          cases B4 with
          | true =>
            obtain rfl := hJ.h13 (hp 13 (of_decide_eq_true (by kernel_rfl))) rfl
            refine wpOp_run rfl (by rfl) (fun K hK => ?_)
            simp only [withs, Act.put, List.setIfInBounds_toArray, List.set_cons_succ, List.set_cons_zero]
            go_simp
            exact hK _ _ ⟨[x0, x1, x2, x3, x4, x5, x6, x7, x8, x9, x10, (.bool true), x12, (.bool BJ), (.bool BJ), x15, x16, x17, x18, x19, x20], (by simp only [withs, Act.put, List.setIfInBounds_toArray, List.set_cons_succ, List.set_cons_zero]), (hJ.st14).mk_⟩
          | false =>
            refine wpOp_run rfl (by rfl) (fun K hK => ?_)
            simp only [withs, Act.put, List.setIfInBounds_toArray, List.set_cons_succ, List.set_cons_zero]
            go_simp
            exact hK _ _ ⟨[x0, x1, x2, x3, x4, x5, x6, x7, x8, x9, x10, (.bool false), x12, x13, (.bool false), x15, x16, x17, x18, x19, x20], (by simp only [withs, Act.put, List.setIfInBounds_toArray, List.set_cons_succ, List.set_cons_zero]), (hJ.st14).mk_⟩
        · skip
          refine wpOp_run rfl (by rfl) (fun K hK => ?_)
          simp only [withs, Act.put, List.setIfInBounds_toArray, List.set_cons_succ, List.set_cons_zero]
          go_simp
          exact hK _ _ ⟨[x0, x1, x2, x3, x4, x5, x6, x7, x8, x9, x10, x11, x12, x13, x14, (.pointer (some ⟨bn, 0, none⟩)), x16, x17, x18, x19, x20], (by simp only [withs, Act.put, List.setIfInBounds_toArray, List.set_cons_succ, List.set_cons_zero]), (hJ.st15).mk_⟩
        · skip
          refine wpOp_run rfl (by rfl) (fun K hK => ?_)
          simp only [withs, Act.put, List.setIfInBounds_toArray, List.set_cons_succ, List.set_cons_zero]
          go_simp
          exact hK _ _ ⟨[x0, x1, x2, x3, x4, x5, x6, x7, x8, x9, x10, x11, x12, x13, x14, x15, (.pointer (some ⟨br, 0, none⟩)), x17, x18, x19, x20], (by simp only [withs, Act.put, List.setIfInBounds_toArray, List.set_cons_succ, List.set_cons_zero]), (hJ.st16).mk_⟩
        · obtain rfl := hJ.h6 (hp 6 (of_decide_eq_true (by kernel_rfl)))
          obtain rfl : u1 = x7 := (hJ.h7 (hp 7 (of_decide_eq_true (by kernel_rfl)))).symm
          obtain rfl := hJ.h14 (hp 14 (of_decide_eq_true (by kernel_rfl)))
          obtain rfl := hJ.h15 (hp 15 (of_decide_eq_true (by kernel_rfl)))
          obtain rfl := hJ.h16 (hp 16 (of_decide_eq_true (by kernel_rfl)))
          obtain rfl := hJ.m0 hn
          refine wpOp_run rfl (by rfl) (fun K hK => ?_)
          simp only [withs, Act.put, List.setIfInBounds_toArray, List.set_cons_succ, List.set_cons_zero]
          refine step_wp (by rfl) ?_
          refine step_call (by rfl) 55 _ (by go_simp) HIH.out ?_
          rintro z w3' ⟨ds', rfl, hu, hcn, hcr, hm2⟩
          refine ⟨_, rfl, ?_⟩
          have kb : ∀ q, q < wr.heap.size → q ≠ bn → q ≠ br → w3'.heap[q]? = wr.heap[q]? := fun q hq h1 h2 => hm2.block q hq (by rintro (h | h); exact h1 h; exact h2 h)
          have z3 : wr.heap.size ≤ w3'.heap.size := hm2.size
          exact hK _ _ ⟨[x0, x1, x2, x3, x4, x5, (.agg #[.int .i64 x.kids[j].tr.lab.kind, .int .i64 x.kids[j].tr.lab.id, .string x.kids[j].tr.lab.nm, .string s1, .slice A1 n1 c1, .slice B1 m1 d1]), (u1), x8, x9, x10, x11, x12, x13, (.bool (B4 && BJ)), (.pointer (some ⟨bn, 0, none⟩)), (.pointer (some ⟨br, 0, none⟩)), (.agg ds'.toArray), x18, x19, x20], (by show Act.put _ (some 108) _ = _; simp only [withs, Act.put, List.setIfInBounds_toArray, List.set_cons_succ, List.set_cons_zero]), (hJ.st17 hn ⟨hu, hcn, hcr, hm2⟩ ⟨(kb _ (by omega) (by omega) (by omega)).trans P0.out, kb _ (by omega) hxk.1 hxk.2, z3⟩ ((kb _ (by omega) (by omega) (by omega)).trans P2.out)).mk_⟩
        · have g17 := hp 17 (of_decide_eq_true (by kernel_rfl))
          obtain ⟨hc3, rfl⟩ := hJ.m17 g17
          obtain rfl := hJ.w17 g17 hn
          obtain ⟨s2, A2, n2, c2, B2, m2, d2, rfl, _, _⟩ := HN6.out _ _ _ hc3.1
          refine wpOp_run rfl (by rfl) (fun K hK => ?_)
          simp only [withs, Act.put, List.setIfInBounds_toArray, List.set_cons_succ, List.set_cons_zero]
          go_simp
          exact hK _ _ ⟨[x0, x1, x2, x3, x4, x5, x6, x7, x8, x9, x10, x11, x12, x13, x14, x15, x16, (.agg #[.int .i64 (Nm.long k x.kids[j] (x.lenv e) (B4 && BJ) Tj.2.1 Tj.2.2).1.tr.lab.kind, .int .i64 (Nm.long k x.kids[j] (x.lenv e) (B4 && BJ) Tj.2.1 Tj.2.2).1.tr.lab.id, .string (Nm.long k x.kids[j] (x.lenv e) (B4 && BJ) Tj.2.1 Tj.2.2).1.tr.lab.nm, .string s2, .slice A2 n2 c2, .slice B2 m2 d2]), (.slice (some ⟨W.heap.size, 0, none⟩) 1 1), x19, x20], (by simp only [withs, Act.put, List.setIfInBounds_toArray, List.set_cons_succ, List.set_cons_zero]), (hJ.st18 g17 hn ⟨heap_old (lt_heap hbx) hbx, (heap_old (by omega) rfl).trans hbb, by simp; omega⟩ (heap_old (lt_heap (hJ.b_y (hJ.no21 (hJ.no19 hn)))) (hJ.b_y (hJ.no21 (hJ.no19 hn))))).mk_⟩
        · have g18 := hp 18 (of_decide_eq_true (by kernel_rfl))
          have g17 := hJ.q18 g18
          have g1 := hp 1 (of_decide_eq_true (by kernel_rfl))
          obtain rfl := hJ.h1 g1
          obtain ⟨hc3, -⟩ := hJ.m17 g17
          obtain rfl := hJ.m18 g18
          obtain rfl := hJ.w18 g18 hn
          have hby := hJ.b_y (hJ.no21 hn)
          obtain ⟨s2, A2, n2, c2, B2, m2, d2, rfl, _, _⟩ := HN6.out _ _ _ hc3.1
          have hm2 := hc3.2.2.2
          have z3 : wr.heap.size ≤ w3.heap.size := hm2.size
          have hkS2 : ∀ q, (S q ∨ (wx.heap.size + 1 ≤ q ∧ q < wy.heap.size)) → w3.heap[q]? = wr.heap[q]? := fun q hq => hm2.block q (HS2.out q hq).1 (by rintro (h | h); exact (HS2.out q hq).2.1 h; exact (HS2.out q hq).2.2 h)
          obtain ⟨xs, hownx, hallx⟩ := HOWN.out.growEx (w' := w3) hkS2 (fun q h1 h2 => hm2.block q h2 (by rintro (h | h); omega; omega)) z3
          rw [HLEN.out] at hownx
          refine wpOp_run rfl (by rfl) (fun K hK => ?_)
          simp only [withs, Act.put, List.setIfInBounds_toArray, List.set_cons_succ, List.set_cons_zero]
          refine step_wp (by rfl) ?_
          refine step_append_lies _ (by rfl) (.tmp 92) (.tmp 109) _ (by rfl) wy.heap.size 65 i0 _ 6 96 Tryd.underlying63 hi0 hz0 hz1 hz2 rfl (by omega) (.slice Aq j cq) j xs (by rfl) (hownx.alloc _) ⟨w3.heap.size, 0, none⟩ 1 1 [.int .i64 (Nm.long k x.kids[j] (x.lenv e) (B4 && BJ) Tj.2.1 Tj.2.2).1.tr.lab.kind, .int .i64 (Nm.long k x.kids[j] (x.lenv e) (B4 && BJ) Tj.2.1 Tj.2.2).1.tr.lab.id, .string (Nm.long k x.kids[j] (x.lenv e) (B4 && BJ) Tj.2.1 Tj.2.2).1.tr.lab.nm, .string s2, .slice A2 n2 c2, .slice B2 m2 d2] (by rfl) (by rfl) (World.news_of_block (cs := #[.int .i64 (Nm.long k x.kids[j] (x.lenv e) (B4 && BJ) Tj.2.1 Tj.2.2).1.tr.lab.kind, .int .i64 (Nm.long k x.kids[j] (x.lenv e) (B4 && BJ) Tj.2.1 Tj.2.2).1.tr.lab.id, .string (Nm.long k x.kids[j] (x.lenv e) (B4 && BJ) Tj.2.1 Tj.2.2).1.tr.lab.nm, .string s2, .slice A2 n2 c2, .slice B2 m2 d2]) (t := 65) (fr := (0, 0)) (heap_alloc_new w3 _)) (by simp [Value.oneCell']) (by omega) (by have := HK2.out; unfold maxLen; omega) (by omega) (by simp; omega) (w3.heap.size + 1) (by simp) ?_
          intro g2 c3 u4 hown3 hgrow hat hlt
          have kk : ∀ q, q < wy.heap.size → u4.heap[q]? = (w3.alloc (.cells #[.int .i64 (Nm.long k x.kids[j] (x.lenv e) (B4 && BJ) Tj.2.1 Tj.2.2).1.tr.lab.kind, .int .i64 (Nm.long k x.kids[j] (x.lenv e) (B4 && BJ) Tj.2.1 Tj.2.2).1.tr.lab.id, .string (Nm.long k x.kids[j] (x.lenv e) (B4 && BJ) Tj.2.1 Tj.2.2).1.tr.lab.nm, .string s2, .slice A2 n2 c2, .slice B2 m2 d2] 65)).heap[q]? := fun q hq => hgrow.block q (by simp; omega) (fun e => by have := (HBLK.out q e.symm).1; omega)
          have z4 : w3.heap.size + 1 ≤ u4.heap.size := by have := hgrow.size; simpa using this
          exact hK _ _ ⟨[x0, (.slice Aq j cq), x2, x3, x4, x5, x6, x7, x8, x9, x10, x11, x12, x13, x14, x15, x16, x17, (.slice (some ⟨w3.heap.size, 0, none⟩) 1 1), (.slice (some ⟨g2, 0, none⟩) (j + 1) c3), x20], (by show Act.put _ (some 110) _ = _; simp only [withs, Act.put, List.setIfInBounds_toArray, List.set_cons_succ, List.set_cons_zero]), (hJ.st19 g1 g18 hn ⟨xs, hallx, hown3, hgrow, hat⟩ ⟨(kk _ (by omega)).trans hbx, (kk _ (by have := (HLO.out b hSb).1; omega)).trans hbb, by omega⟩ ((kk _ (by omega)).trans hby)).mk_⟩
        · skip
          refine wpOp_run rfl (by rfl) (fun K hK => ?_)
          simp only [withs, Act.put, List.setIfInBounds_toArray, List.set_cons_succ, List.set_cons_zero]
          go_simp
          exact hK _ _ ⟨[x0, x1, x2, x3, x4, x5, x6, x7, x8, x9, x10, x11, x12, x13, x14, x15, x16, x17, x18, x19, (.pointer (some ⟨wx.heap.size, 5, none⟩))], (by simp only [withs, Act.put, List.setIfInBounds_toArray, List.set_cons_succ, List.set_cons_zero]), (hJ.st20).mk_⟩
        · have g19 := hp 19 (of_decide_eq_true (by kernel_rfl))
          obtain rfl := hJ.h20 (hp 20 (of_decide_eq_true (by kernel_rfl)))
          obtain ⟨hc4, rfl⟩ := hJ.m19 g19
          obtain rfl := hJ.w19 g19 hn
          have hby := hJ.b_y hn
          have hy5 := cv5 hby
          have hyf := free_heap hby 5
          have hyl := lt_heap hby
          refine wpOp_run rfl (by rfl) (fun K hK => ?_)
          simp only [withs, Act.put, List.setIfInBounds_toArray, List.set_cons_succ, List.set_cons_zero]
          go_simp
          exact hK _ _ ⟨[x0, x1, x2, x3, x4, x5, x6, x7, x8, x9, x10, x11, x12, x13, x14, x15, x16, x17, x18, (.slice (some ⟨gg, 0, none⟩) (j + 1) cap), (.pointer (some ⟨wx.heap.size, 5, none⟩))], (by simp only [withs, Act.put, List.setIfInBounds_toArray, List.set_cons_succ, List.set_cons_zero]), (hJ.st21 g19 ⟨heap_far _ (by omega) hbx, (heap_far _ (by have := (HLO.out b hSb).1; omega) rfl).trans hbb, by rw [size_set]; exact zW⟩).mk_⟩
    · go_wp2_with fail
      have hjk : j = x.kids.length := by omega
      have hjk2 : j = x.kidsH.length := by have := HKL.out; omega
      refine bodyPost_ret (v := .agg #[.int .i64 kd, .int .i64 idn, .string nx, .string sa, .slice Aa na ca, .slice Aq j cq]) (by simp [results, Tryd.results55, go_sem, p1_0, p1_1, p1_2, p1_3, p1_4, p1_5, p1_l]) rfl ?_
      have hown := HOWN.out
      have hnr := HNR.out
      have hrr := HRR.out
      rw [hjk2, List.take_length] at hown hnr hrr
      refine ⟨[.int .i64 kd, .int .i64 idn, .string nx, .string sa, .slice Aa na ca, .slice Aq j cq], rfl, ?_, far6 (by omega) hnr, far6 (by omega) hrr, (((((HMR.out.setCell (by simp) _).setCell (by simp) _).setCell (by simp) _).setCell (by simp) _).setCell (by simp) _).setCell (by simp) _⟩
      refine Nt.shut (a := ⟨kd, idn, nx, ty⟩) HNM.out ?_ ?_
      · exact Ty.In_keep (fun b hb => far6 (by have := (HLO.out b hb).1; omega) (HKS.out b hb)) (fun b hb => Or.inl hb) _ _ _ HTY.out
      · rw [hjk2]
        exact (Rep.Own.sl (S' := New (fun b => S b ∨ (wx.heap.size + 1 ≤ b ∧ b < wy.heap.size)) wy.heap.size wr) hown (by rw [List.length_map, thr_len]; have := HK2.out; have := HKL.out; unfold maxLen; omega) (fun b hb => hb) (fun b h1 h2 => Or.inr ⟨h1, h2⟩)).keep (fun b hb => far6 (by rcases hb with (hb | hb) | hb; have := (HLO.out b hb).1; omega; omega; omega) rfl) (fun b hb => by
          rcases hb with (hb | hb) | hb
          · exact Or.inl hb
          · exact Or.inr ⟨by omega, lt6 (by omega)⟩
          · exact Or.inr ⟨by omega, lt6 hb.2⟩)


theorem Nt.one_lit {W : World} {S : Nat → Prop} {x : Nt} {ds : List Value} {blk : Nat} {T : TypeId} {fr : Nat × Nat} (hx : nmRep.R W S x ds) (hb : W.heap[blk]? = some (.cells ds.toArray T fr)) (hS : S blk) :
    nmRep.Sl W S (.slice (some ⟨blk, 0, none⟩) 1 1) [x] :=
  ⟨_, 1, 1, rfl, rfl, by simp [maxLen], fun _ => ⟨blk, 0, ds, rfl, hS, Rep.All.single hx, fun j u hj => by rw [Nat.zero_add]; exact cell_heap hb (by simpa using hj)⟩⟩
theorem Nt.two_lit {W : World} {S : Nat → Prop} {f x : Nt} {cs ds : List Value} {blk : Nat} {T : TypeId} {fr : Nat × Nat} (hf : nmRep.R W S f cs) (hx : nmRep.R W S x ds) (hb : W.heap[blk]? = some (.cells (cs ++ ds).toArray T fr)) (hS : S blk) :
    nmRep.Sl W S (.slice (some ⟨blk, 0, none⟩) 2 2) [f, x] :=
  ⟨_, 2, 2, rfl, rfl, by simp [maxLen], fun _ => ⟨blk, 0, cs ++ ds, rfl, hS, ⟨cs, ds, rfl, hf, Rep.All.single hx⟩, fun j u hj => by rw [Nat.zero_add]; exact cell_heap hb (by simpa using hj)⟩⟩
theorem noTy_in {W : World} {S : Nat → Prop} : noTy.In W S (.string ⟨#[]⟩) (.slice none 0 0) := Ty.In.mk_ (by decide +kernel) rfl (by omega) (by omega)
/-- The abstraction put around. -/
theorem eta_in {W : World} {S : Nat → Prop} {x : Nm} {a : Sy} {m : Nat} {mi : Int} {xs : List Value} {b1 b2 : Nat} {t0 t1 : Value} (hmi : mi = ((m : Nat) : Int)) (hx : nmRep.R W S x.tr xs) (ht : a.ty.In W S t0 t1) (h1 : W.heap[b1]? = some (.cells (xs ++ ([.int .i64 2, .int .i64 mi, .string ⟨#[]⟩, .string ⟨#[]⟩, .slice none 0 0, .slice none 0 0] : List Value)).toArray 65 (0, 0))) (s1 : S b1)
    (h2 : W.heap[b2]? = some (.cells #[.int .i64 4, .int .i64 0, .string ⟨#[]⟩, .string ⟨#[]⟩, .slice none 0 0, .slice (some ⟨b1, 0, none⟩) 2 2] 65 (0, 0))) (s2 : S b2) :
    nmRep.R W S (Nm.abs m a (.app x (.var m))).tr [.int .i64 3, .int .i64 mi, .string ⟨#[]⟩, t0, t1, .slice (some ⟨b2, 0, none⟩) 1 1] := by
  subst hmi
  have hv : nmRep.R W S (Nm.var m).tr [.int .i64 2, .int .i64 (m : Nat), .string ⟨#[]⟩, .string ⟨#[]⟩, .slice none 0 0, .slice none 0 0] :=
    Nt.shut (a := ⟨2, (m : Nat), bNil, noTy⟩) (l := []) (by show bNil.size ≤ maxLen; decide +kernel) noTy_in Rep.Sl.nil
  have hb : nmRep.R W S (Nm.app x (.var m)).tr [.int .i64 4, .int .i64 0, .string ⟨#[]⟩, .string ⟨#[]⟩, .slice none 0 0, .slice (some ⟨b1, 0, none⟩) 2 2] :=
    Nt.shut (a := ⟨4, 0, bNil, noTy⟩) (l := [x.tr, (Nm.var m).tr]) (by show bNil.size ≤ maxLen; decide +kernel) noTy_in (Nt.two_lit hx hv h1 s1)
  exact Nt.shut (a := ⟨3, (m : Nat), bNil, a.ty⟩) (l := [(Nm.app x (.var m)).tr]) (by show bNil.size ≤ maxLen; decide +kernel) ht (Nt.one_lit hb h2 s2)
theorem LongPure.eta {k : Nat} {x : Nm} {e : List (Nat × Sy)} {a b : Sy} {n : Nat} {r : Int} (h : LongPure k 0 x e (.fn a b) n r) : LongPure k 4 (.abs (n + 1) a (.app x (.var (n + 1)))) e (.fn a b) (n + 1) r := by
  obtain ⟨rk, room, rlo, rhi, nhi, good, up, nodup, typ⟩ := h
  have hne : n + 1 ∉ e.map Prod.fst := fun hh => by have := up _ hh; omega
  have hl : x.tv ((n + 1) :: e.map Prod.fst) = (x.tv (e.map Prod.fst)).lift 1 0 := Nm.tv_lift x [] [n + 1] (e.map Prod.fst) good.sc (fun c hc h => by
    obtain rfl : c = n + 1 := by simpa using hc
    have := up _ h; omega)
  refine ⟨rk, ?_, rlo, rhi, by omega, ⟨hne, Nat.le_refl _, Nm.good.push (Nat.lt_succ_self n) (u1 := []) good, List.mem_cons_self ..⟩, fun c hc => by have := up c hc; omega, nodup, ?_⟩
  · simp only [Nm.nodes]; omega
  · have htv : (Nm.app x (.var (n + 1))).tv ((n + 1) :: e.map Prod.fst) = .app ((x.tv (e.map Prod.fst)).lift 1 0) (.var 0) := by
      simp only [Nm.tv, hl, pos, if_true]
    show Tv.typ (e.map Prod.snd) (.abs a ((Nm.app x (.var (n + 1))).tv ((n + 1) :: e.map Prod.fst))) = _
    rw [htv]
    simp only [Tv.typ] at typ ⊢
    have := Tv.typ_eta (a := a) typ
    simp only [Tv.typ] at this
    rw [this]; rfl

set_option maxRecDepth 100000 in
set_option maxHeartbeats 4000000 in
theorem longR_eta (k : Nat) (x : Nm) (e : List (Nat × Sy)) (a b : Sy) (n : Nat) (r : Int) (cs : List Value) (uv : Value) (bn br : Nat) (w : World) (S : Nat → Prop) (hr0 : ¬ r < 0) (hx : x.isAbs = false) (h : LongPre (k + 1) 0 x e (.fn a b) n r cs uv bn br w S)
    (hy : ∀ (cs' : List Value) (uv' : Value) (w' : World) (S' : Nat → Prop), LongPre (k + 1) 4 (.abs (n + 1) a (.app x (.var (n + 1)))) e (.fn a b) (n + 1) r cs' uv' bn br w' S' →
      Calls Tryd.prog 55 #[.agg cs'.toArray, uv', .bool false, .pointer (some ⟨bn, 0, none⟩), .pointer (some ⟨br, 0, none⟩)] w' (LongAt (k + 1) (.abs (n + 1) a (.app x (.var (n + 1)))) e false (n + 1) r bn br w' S')) :
    Calls Tryd.prog 55 #[.agg cs.toArray, uv, .bool false, .pointer (some ⟨bn, 0, none⟩), .pointer (some ⟨br, 0, none⟩)] w (LongAt (k + 1) x e false n r bn br w S) := by
  have HY := Lib.hid hy
  clear hy
  have hpure := h.toLongPure.eta
  unfold LongAt
  rw [Nm.long_etaY k x a b e n r hr0 hx h.typ]
  have hk3 : (x.lab.kind != 3) = true := by cases x <;> first | rfl | (simp [Nm.isAbs] at hx)
  have hlo := h.lo
  have hne := h.ne
  have hbn := h.hn
  have hbr := h.hr
  have hnl := lt_heap hbn
  have hbl := lt_heap hbr
  have hbl1 : br < w.heap.size + 1 := by omega
  have hbl2 : br < w.heap.size + 1 + 1 := by omega
  have hnhi := h.nhi
  have hS := fun b hb => (hlo b hb).1
  have hold : ∀ (o p : Obj) k, S k → ((w.alloc o).alloc p).heap[k]? = w.heap[k]? := fun o p k hk => heap_old (by have := hS k hk; simp; omega) (heap_old (hS k hk) rfl)
  have hkn := h.kn
  obtain ⟨Au, cu, rfl⟩ := hkn.shape
  have hmem := h.mem
  have hmem2 := h.mem
  rw [Nm.tr_eq] at hmem
  obtain ⟨u0, u1, vs, rfl, hnm, hty, hl⟩ := Nt.open_ hmem
  obtain ⟨sa, Aa, na, ca, rfl, rfl⟩ := hty.shape
  obtain ⟨A, m, c, rfl, hln, hm, _⟩ := hl
  rw [List.length_map] at hln
  subst hln
  have htp := fun (o p : Obj) => Lib.hid (refTyped_any x.nodes x e (.fn a b) _ (.slice Au e.length cu) ((w.alloc o).alloc p) S n (Nat.le_refl _) (by have := h.room; omega) h.good h.nodup h.typ (nmRep.keep h.mem (hold o p) (fun _ h => h)) (hkn.keep (hold o p) (fun _ h => h)) (fun b hb => by have := hS b hb; simp; omega))
  have e0 := cv0 hbr
  have hq : (r < 0) = False := by simp; omega
  have w1 : IntKind.i64.wrap ((n : Int) + 1) = (n : Int) + 1 := wrap_ok _ (by omega) (by have := h.rlo; omega)
  generalize x.lab = lab at *
  obtain ⟨kd, idn, nx, ty⟩ := lab
  simp only at hk3 htp hty hmem2
  clear h hm hmem hx hnm hr0 hnhi hty
  have HLO := Lib.hid hlo
  have HBN := Lib.hid hbn
  have HBR := Lib.hid hbr
  have HOLD := Lib.hid hold
  have HKN := Lib.hid hkn
  have HTP := Lib.hid htp
  have HMEM2 := Lib.hid hmem2
  have HPURE := Lib.hid hpure
  clear hlo hbn hbr hold hkn htp hmem2 hpure
  have HS := Lib.hid hS
  clear hS
  go_enter Tryd.func55, Tryd.ntmps55
  go_wp2_with fail
  (with_reducible refine (HTP.out _ _).out.mono ?_)
  unfold RefTypedAt
  rintro z w2 ⟨v0, v1, rfl, hv, hw2⟩
  have z2 : w.heap.size + 2 ≤ w2.heap.size := by have := hw2.size; simpa using this
  have p0 := (hw2.block w.heap.size (by simp; omega)).trans (heap_old (by simp) (heap_at rfl))
  have p1 := (hw2.block (w.heap.size + 1) (by simp)).trans (heap_at (by simp))
  have hB2 : Below w.heap.size w w2 := (((Below.refl _ w).alloc (Nat.le_refl _) _).alloc (by simp) _).trans (hw2.mono (by simp; omega))
  obtain ⟨bl, o1, c1, x0, x1, y0, y1, rfl, rfl, hSl, g0, g1, -, -, hxa, -⟩ := Sy.In_fn hv
  obtain ⟨sq, Aq, nq, cq, rfl, rfl⟩ := hxa.shape
  have lbl : bl < w2.heap.size := by
    rcases hSl with hk | hk
    · have := HS.out bl hk; omega
    · exact hk.2
  have hxa2 : a.ty.In w2 (fun k => S k ∨ (w.heap.size + 2 ≤ k ∧ k < w2.heap.size)) (.string sq) (.slice Aq nq cq) := hxa.mono (fun k hk => hk.imp_right (fun h => ⟨by have := h.1; simpa using this, h.2⟩))
  have hSl2 : S bl ∨ (w.heap.size + 2 ≤ bl ∧ bl < w2.heap.size) := hSl.imp_right (fun h => ⟨by have := h.1; simpa using this, h.2⟩)
  clear hw2 hv hxa hSl
  have HB2 := Lib.hid hB2
  have P1 := Lib.hid p1
  have G0 := Lib.hid g0
  have G1 := Lib.hid g1
  have HXA2 := Lib.hid hxa2
  have HSL2 := Lib.hid hSl2
  clear hB2 p1 g0 g1 hxa2 hSl2
  have p0_0 := cv0 p0
  have p0_1 := cv1 p0
  have p0_2 := cv2 p0
  have p0_3 := cv3 p0
  have p0_4 := cv4 p0
  have p0_5 := cv5 p0
  have p0_l := lt_heap p0
  have P0 := Lib.hid p0
  clear p0
  go_upto_region 4 with (fail)
  refine gen_last (fun wx => Below w.heap.size w wx ∧ (wx.heap.size ≤ w2.heap.size + 1 ∧ w2.heap.size + 1 ≤ wx.heap.size) ∧ wx.heap[w.heap.size]? = some (.cells #[.int .i64 kd, .int .i64 idn, .string nx, .string sa, .slice Aa na ca, .slice A x.kids.length c] 65 (0, 0)) ∧ wx.heap[w.heap.size + 1]? = some (.cells #[.int .i64 0, .int .i64 0, .string ⟨#[]⟩, .string ⟨#[]⟩, .slice none 0 0, .slice none 0 0] 65 (0, 0)) ∧ wx.heap[w2.heap.size]? = some (.cells #[.string bNil, .slice (some ⟨bl, o1, none⟩) 2 c1] 24 (0, 0)) ∧ ∀ q, q < w2.heap.size → wx.heap[q]? = w2.heap[q]?) ?_ ?_
  · exact ⟨HB2.out.alloc (by omega) _, by simp, heap_old (by omega) P0.out, heap_old (by omega) P1.out, heap_at rfl, fun q hq => heap_old hq rfl⟩
  rintro wx ⟨hBx, zx, p0, p1, ps, hkx⟩
  clear p0_0 p0_1 p0_2 p0_3 p0_4 p0_5 p0_l e0 hbl1 hbl2
  have hnx := (hBx.block bn hnl).trans HBN.out
  have hrx := (hBx.block br hbl).trans HBR.out
  have fe : bNil.toList.isEmpty = true := by simp [ByteArray.toList_eq, bNil]
  have b0 : bn ≠ w.heap.size := by omega
  have b1 : bn ≠ w.heap.size + 1 := by omega
  have b2 : bn ≠ w2.heap.size := by omega
  have b3 : bn < wx.heap.size := by omega
  have b5 : w.heap.size < wx.heap.size := by omega
  have HBX := Lib.hid hBx
  have P1 := Lib.hid p1
  have HRX := Lib.hid hrx
  have HKX := Lib.hid hkx
  clear hBx p1 hrx hkx
  have p0_0 := cv0 p0
  have p0_1 := cv1 p0
  have p0_2 := cv2 p0
  have p0_3 := cv3 p0
  have p0_4 := cv4 p0
  have p0_5 := cv5 p0
  have p0_l := lt_heap p0
  have P0 := Lib.hid p0
  clear p0
  have ps_0 := cv0 ps
  have ps_1 := cv1 ps
  have ps_l := lt_heap ps
  have PS := Lib.hid ps
  clear ps
  have hnx_0 := cv0 hnx
  have hnx_f0 := free_heap hnx 0
  have hnx_l := lt_heap hnx
  have HNX := Lib.hid hnx
  clear hnx
  go_upto_region 8 with (fail)
  refine gen_last (fun wz => Mods (fun b => b = bn ∨ b = br) w.heap.size w wz ∧ (wz.heap.size ≤ wx.heap.size + 3 ∧ wx.heap.size + 3 ≤ wz.heap.size) ∧ wz.heap[bn]? = some (.cells #[.int .i64 ((n : Int) + 1)] 3 (0, 0)) ∧ wz.heap[br]? = some (.cells #[.int .i64 r] 3 (0, 0)) ∧ wz.heap[w.heap.size + 1]? = some (.cells #[.int .i64 0, .int .i64 0, .string ⟨#[]⟩, .string ⟨#[]⟩, .slice none 0 0, .slice none 0 0] 65 (0, 0)) ∧ wz.heap[w2.heap.size]? = some (.cells #[.string bNil, .slice (some ⟨bl, o1, none⟩) 2 c1] 24 (0, 0)) ∧
    wz.heap[wx.heap.size + 1]? = some (.cells #[.int .i64 kd, .int .i64 idn, .string nx, .string sa, .slice Aa na ca, .slice A x.kids.length c, .int .i64 2, .int .i64 ((n : Int) + 1), .string ⟨#[]⟩, .string ⟨#[]⟩, .slice none 0 0, .slice none 0 0] 65 (0, 0)) ∧ wz.heap[wx.heap.size + 1 + 1]? = some (.cells #[.int .i64 4, .int .i64 0, .string ⟨#[]⟩, .string ⟨#[]⟩, .slice none 0 0, .slice (some ⟨wx.heap.size + 1, 0, none⟩) 2 2] 65 (0, 0)) ∧ ∀ q, q < w2.heap.size → q ≠ bn → wz.heap[q]? = w2.heap[q]?) ?_ ?_
  · refine ⟨?_, by simp [size_set], heap_old (by simp [size_set]; omega) (heap_old (by simp [size_set]; omega) (heap_old (by simp [size_set]; omega) (heap_set HNX.out 0 _))), heap_old (by simp [size_set]; omega) (heap_old (by simp [size_set]; omega) (heap_old (by simp [size_set]; omega) (heap_far _ (Ne.symm hne) HRX.out))), heap_old (by simp [size_set]; omega) (heap_old (by simp [size_set]; omega) (heap_old (by simp [size_set]; omega) (heap_far _ (Ne.symm b1) P1.out))), heap_old (by simp [size_set]; omega) (heap_old (by simp [size_set]; omega) (heap_old (by simp [size_set]; omega) (heap_far _ (Ne.symm b2) PS.out))), heap_old (by simp [size_set]) (heap_at (by simp [size_set])), heap_at (by simp [size_set]), fun q hq hqn => heap_old (by simp [size_set]; omega) (heap_old (by simp [size_set]; omega) (heap_old (by simp [size_set]; omega) (heap_far _ hqn (HKX.out q hq))))⟩
    refine Mods.alloc (Mods.alloc (Mods.alloc ((Mods.below HBX.out).setP (Or.inl rfl) _) ?_ _) ?_ _) ?_ _
    all_goals (simp [size_set] <;> omega)
  rintro wz ⟨hmz, zz, hzn, hzr, p1, hzs, h12, hzb, hkz⟩
  clear p0_0 p0_1 p0_2 p0_3 p0_4 p0_5 p0_l ps_0 ps_1 ps_l hnx_0 hnx_f0 hnx_l w1 fe
  have lN : bn < wz.heap.size := by omega
  have lS : w2.heap.size < wz.heap.size := by omega
  have lB : wx.heap.size + 1 + 1 < wz.heap.size := by omega
  have lT : bl < wz.heap.size := by omega
  have hbln : bl ≠ bn := by
    rcases HSL2.out with h | h
    · exact (HLO.out bl h).2.1
    · omega
  have ht0 := (cell_keep (hkz bl lbl hbln) _).trans G0.out
  have ht1 := (cell_keep (hkz bl lbl hbln) _).trans G1.out
  have HMZ := Lib.hid hmz
  have HZN := Lib.hid hzn
  have HZR := Lib.hid hzr
  have P1 := Lib.hid p1
  have HZS := Lib.hid hzs
  have H12 := Lib.hid h12
  have HZB := Lib.hid hzb
  have HKZ := Lib.hid hkz
  have HT0 := Lib.hid ht0
  have HT1 := Lib.hid ht1
  clear hmz hzn hzr p1 hzs h12 hzb hkz ht0 ht1
  refine wp_region_frame [50, 51, 52, 53, 54, 55, 56, 57, 58, 59, 14] (YJx (.pointer (some ⟨bn, 0, none⟩)) (.pointer (some ⟨bn, 0, none⟩)) (.int .i64 ((n : Int) + 1)) (.pointer (some ⟨w2.heap.size, 1, none⟩)) (.slice (some ⟨bl, o1, none⟩) 2 c1) (.pointer (some ⟨bl, o1, none⟩)) (.agg #[.string sq, .slice Aq nq cq]) (.agg #[.int .i64 4, .int .i64 0, .string ⟨#[]⟩, .string ⟨#[]⟩, .slice none 0 0, .slice (some ⟨wx.heap.size + 1, 0, none⟩) 2 2]) [.int .i64 4, .int .i64 0, .string ⟨#[]⟩, .string ⟨#[]⟩, .slice none 0 0, .slice (some ⟨wx.heap.size + 1, 0, none⟩) 2 2] wz (.int .i64 3) (.int .i64 ((n : Int) + 1)) (.string ⟨#[]⟩) (.string sq) (.slice Aq nq cq)) (by kernel_rfl) (by kernel_rfl) ?h0 ?hend ?hstep
  case h0 =>
    intro f xs hf hx _
    obtain ⟨x0, x1, x2, x3, x4, x5, x6, x7, x8, x9, x10, rfl⟩ := lenY hx
    exact YJ.mk_ (g := 0) (gy := 0) (YJ.start hf (Below.refl _ wz).drew)
  case hend =>
    rintro f xs W hf ⟨x0, x1, x2, x3, x4, x5, x6, x7, x8, x9, x10, g, gy, rfl, hJ⟩
    have hbel := hJ.bel
    obtain ⟨-, hg, hgb⟩ := hJ.h8 (hf 8 (by decide))
    obtain ⟨rfl, hgy, -⟩ := hJ.h10 (hf 10 (by decide))
    have hyb := hJ.s11 (hf 11 (by decide))
    clear hJ hf
    have zW := hbel.size
    have hkW : ∀ q, q < w2.heap.size → q ≠ bn → W.heap[q]? = w2.heap[q]? := fun q h1 h2 => (hbel.block q (by omega)).trans (HKZ.out q h1 h2)
    have hSW : ∀ q, S q → W.heap[q]? = w.heap[q]? := fun q hq => (hbel.block q (by have := HS.out q hq; omega)).trans (HMZ.out.block q (HS.out q hq) (by rintro (h | h); exact (HLO.out q hq).2.1 h; exact (HLO.out q hq).2.2 h))
    have hmem := eta_in (W := W) (S := (fun b => S b ∨ (w.heap.size + 2 ≤ b ∧ b < W.heap.size))) (x := x) (a := a) (m := n + 1) (mi := (n : Int) + 1) (xs := [.int .i64 kd, .int .i64 idn, .string nx, .string sa, .slice Aa na ca, .slice A x.kids.length c]) (b1 := wx.heap.size + 1) (b2 := g) (t0 := .string sq) (t1 := .slice Aq nq cq) (by omega) (nmRep.keep HMEM2.out hSW (fun _ h => Or.inl h)) (Ty.In_keep (fun q hq => hkW q (by rcases hq with h | h; have := HS.out q h; omega; exact h.2) (by rcases hq with h | h; exact (HLO.out q h).2.1; omega)) (fun q hq => hq.imp_right (fun h => ⟨h.1, by omega⟩)) _ _ _ HXA2.out) ((hbel.block _ (by omega)).trans H12.out) (Or.inr ⟨by omega, by omega⟩) hgb (Or.inr ⟨by omega, lt_heap hgb⟩)
    have hcall := HY.out [.int .i64 3, .int .i64 ((n : Int) + 1), .string ⟨#[]⟩, .string sq, .slice Aq nq cq, .slice (some ⟨g, 0, none⟩) 1 1] (.slice Au e.length cu) W (fun b => S b ∨ (w.heap.size + 2 ≤ b ∧ b < W.heap.size)) ⟨HPURE.out, hmem, HKN.out.keep hSW (fun _ h => Or.inl h), fun q hq => by
      rcases hq with h | h
      · have := HLO.out q h; exact ⟨by omega, this.2⟩
      · exact ⟨h.2, by omega, by omega⟩, hne, (by rw [show (((n + 1 : Nat) : Nat) : Int) = (n : Int) + 1 by omega]; exact (hbel.block bn lN).trans HZN.out), (hbel.block br (by omega)).trans HZR.out⟩
    have hmW : Mods (fun b => b = bn ∨ b = br) w.heap.size w W := HMZ.out.thenBelow (hbel.mono (by omega))
    have p1 := (hbel.block _ (by omega)).trans P1.out
    clear hmem hgb hbel hkW
    have HCALL := Lib.hid hcall
    have HMW := Lib.hid hmW
    have P1 := Lib.hid p1
    clear hcall hmW p1
    have hyb_0 := cv0 hyb
    have hyb_1 := cv1 hyb
    have hyb_2 := cv2 hyb
    have hyb_3 := cv3 hyb
    have hyb_4 := cv4 hyb
    have hyb_5 := cv5 hyb
    have hyb_l := lt_heap hyb
    have HYB := Lib.hid hyb
    clear hyb
    simp only [withs, Act.put, List.setIfInBounds_toArray, List.set_cons_succ, List.set_cons_zero]
    go_wp2_with fail
    (with_reducible refine HCALL.out.mono ?_)
    unfold LongAt
    rintro z w5 ⟨es, rfl, hu, hn5, hr5, hm5⟩
    obtain ⟨s5, A5, n5, c5, B5, m5, d5, rfl, _, _⟩ := Nt.shape hu
    have z5 := hm5.size
    have p1 := (hm5.block (w.heap.size + 1) (by omega) (by rintro (h | h); omega; omega)).trans P1.out
    have hm6 := HMW.out.trans (hm5.mono (by omega))
    clear hyb_0 hyb_1 hyb_2 hyb_3 hyb_4 hyb_5 hyb_l
    have HU := Lib.hid hu
    have HN5 := Lib.hid hn5
    have HR5 := Lib.hid hr5
    have HM6 := Lib.hid hm6
    clear hu hn5 hr5 hm6
    have p1_0 := cv0 p1
    have p1_1 := cv1 p1
    have p1_2 := cv2 p1
    have p1_3 := cv3 p1
    have p1_4 := cv4 p1
    have p1_5 := cv5 p1
    have p1_f0 := free_heap p1 0
    have p1_f1 := free_heap p1 1
    have p1_f2 := free_heap p1 2
    have p1_f3 := free_heap p1 3
    have p1_f4 := free_heap p1 4
    have p1_f5 := free_heap p1 5
    have p1_l := lt_heap p1
    have P1 := Lib.hid p1
    clear p1
    go_wp2_with fail
    refine bodyPost_ret (v := .agg #[.int .i64 (Nm.long (k + 1) (.abs (n + 1) a (.app x (.var (n + 1)))) e false (n + 1) r).1.tr.lab.kind, .int .i64 (Nm.long (k + 1) (.abs (n + 1) a (.app x (.var (n + 1)))) e false (n + 1) r).1.tr.lab.id, .string (Nm.long (k + 1) (.abs (n + 1) a (.app x (.var (n + 1)))) e false (n + 1) r).1.tr.lab.nm, .string s5, .slice A5 n5 c5, .slice B5 m5 d5]) (by simp [results, Tryd.results55, go_sem, p1_0, p1_1, p1_2, p1_3, p1_4, p1_5, p1_l]) rfl ?_
    refine ⟨_, rfl, nmRep.keep HU.out (fun q hq => far6 (by rcases hq with (h | h) | h; have := HS.out q h; omega; omega; omega) rfl) (fun q hq => ?_), far6 (by omega) HN5.out, far6 (by omega) HR5.out, mods6 HM6.out (by omega)⟩
    rcases hq with (h | h) | h
    · exact Or.inl h
    · exact Or.inr ⟨by omega, lt6 (by omega)⟩
    · exact Or.inr ⟨by omega, lt6 h.2⟩
  case hstep =>
    rintro io hi f xs W hn hp ⟨x0, x1, x2, x3, x4, x5, x6, x7, x8, x9, x10, g, gy, rfl, hJ⟩
    have hi : io < 12 := hi
    rcases (by omega : io = 0 ∨ io = 1 ∨ io = 2 ∨ io = 3 ∨ io = 4 ∨ io = 5 ∨ io = 6 ∨ io = 7 ∨ io = 8 ∨ io = 9 ∨ io = 10 ∨ io = 11) with rfl | rfl | rfl | rfl | rfl | rfl | rfl | rfl | rfl | rfl | rfl | rfl
    · skip
      refine wpOp_run rfl (by rfl) (fun K hK => ?_)
      simp only [withs, Act.put, List.setIfInBounds_toArray, List.set_cons_succ, List.set_cons_zero]
      go_simp
      exact hK _ _ ⟨[(.pointer (some ⟨bn, 0, none⟩)), x1, x2, x3, x4, x5, x6, x7, x8, x9, x10], (by simp only [withs, Act.put, List.setIfInBounds_toArray, List.set_cons_succ, List.set_cons_zero]), (hJ.st0).mk_⟩
    · obtain rfl := hJ.h0 (hp 0 (of_decide_eq_true (by kernel_rfl)))
      have hzN := (hJ.bel.block _ lN).trans HZN.out
      have hzl := Nat.lt_of_lt_of_le lN hJ.bel.size
      have hz0 := cv0 hzN
      refine wpOp_run rfl (by rfl) (fun K hK => ?_)
      simp only [withs, Act.put, List.setIfInBounds_toArray, List.set_cons_succ, List.set_cons_zero]
      go_simp
      exact hK _ _ ⟨[(.pointer (some ⟨bn, 0, none⟩)), (.pointer (some ⟨bn, 0, none⟩)), x2, x3, x4, x5, x6, x7, x8, x9, x10], (by simp only [withs, Act.put, List.setIfInBounds_toArray, List.set_cons_succ, List.set_cons_zero]), (hJ.st1).mk_⟩
    · obtain rfl := hJ.h1 (hp 1 (of_decide_eq_true (by kernel_rfl)))
      have hzN := (hJ.bel.block _ lN).trans HZN.out
      have hzl := Nat.lt_of_lt_of_le lN hJ.bel.size
      have hz0 := cv0 hzN
      refine wpOp_run rfl (by rfl) (fun K hK => ?_)
      simp only [withs, Act.put, List.setIfInBounds_toArray, List.set_cons_succ, List.set_cons_zero]
      go_simp
      exact hK _ _ ⟨[x0, (.pointer (some ⟨bn, 0, none⟩)), (.int .i64 ((n : Int) + 1)), x3, x4, x5, x6, x7, x8, x9, x10], (by simp only [withs, Act.put, List.setIfInBounds_toArray, List.set_cons_succ, List.set_cons_zero]), (hJ.st2).mk_⟩
    · skip
      refine wpOp_run rfl (by rfl) (fun K hK => ?_)
      simp only [withs, Act.put, List.setIfInBounds_toArray, List.set_cons_succ, List.set_cons_zero]
      go_simp
      exact hK _ _ ⟨[x0, x1, x2, (.pointer (some ⟨w2.heap.size, 1, none⟩)), x4, x5, x6, x7, x8, x9, x10], (by simp only [withs, Act.put, List.setIfInBounds_toArray, List.set_cons_succ, List.set_cons_zero]), (hJ.st3).mk_⟩
    · obtain rfl := hJ.h3 (hp 3 (of_decide_eq_true (by kernel_rfl)))
      have hzS := (hJ.bel.block _ lS).trans HZS.out
      have hzl := Nat.lt_of_lt_of_le lS hJ.bel.size
      have hz1 := cv1 hzS
      refine wpOp_run rfl (by rfl) (fun K hK => ?_)
      simp only [withs, Act.put, List.setIfInBounds_toArray, List.set_cons_succ, List.set_cons_zero]
      go_simp
      exact hK _ _ ⟨[x0, x1, x2, (.pointer (some ⟨w2.heap.size, 1, none⟩)), (.slice (some ⟨bl, o1, none⟩) 2 c1), x5, x6, x7, x8, x9, x10], (by simp only [withs, Act.put, List.setIfInBounds_toArray, List.set_cons_succ, List.set_cons_zero]), (hJ.st4).mk_⟩
    · obtain rfl := hJ.h4 (hp 4 (of_decide_eq_true (by kernel_rfl)))
      have q2 : (0 : Int) < ((2 : Nat) : Int) := by decide
      refine wpOp_run rfl (by rfl) (fun K hK => ?_)
      simp only [withs, Act.put, List.setIfInBounds_toArray, List.set_cons_succ, List.set_cons_zero]
      go_simp
      exact hK _ _ ⟨[x0, x1, x2, x3, (.slice (some ⟨bl, o1, none⟩) 2 c1), (.pointer (some ⟨bl, o1, none⟩)), x6, x7, x8, x9, x10], (by simp only [withs, Act.put, List.setIfInBounds_toArray, List.set_cons_succ, List.set_cons_zero]), (hJ.st5).mk_⟩
    · obtain rfl := hJ.h5 (hp 5 (of_decide_eq_true (by kernel_rfl)))
      have g0 := (cell_keep (hJ.bel.block _ lT) _).trans HT0.out
      have g1 := (cell_keep (hJ.bel.block _ lT) _).trans HT1.out
      have hzl := Nat.lt_of_lt_of_le lT hJ.bel.size
      refine wpOp_run rfl (by rfl) (fun K hK => ?_)
      simp only [withs, Act.put, List.setIfInBounds_toArray, List.set_cons_succ, List.set_cons_zero]
      go_simp
      exact hK _ _ ⟨[x0, x1, x2, x3, x4, (.pointer (some ⟨bl, o1, none⟩)), (.agg #[.string sq, .slice Aq nq cq]), x7, x8, x9, x10], (by simp only [withs, Act.put, List.setIfInBounds_toArray, List.set_cons_succ, List.set_cons_zero]), (hJ.st6).mk_⟩
    · have hzB := (hJ.bel.block _ lB).trans HZB.out
      have hzl := Nat.lt_of_lt_of_le lB hJ.bel.size
      have hz0 := cv0 hzB
      have hz1 := cv1 hzB
      have hz2 := cv2 hzB
      have hz3 := cv3 hzB
      have hz4 := cv4 hzB
      have hz5 := cv5 hzB
      refine wpOp_run rfl (by rfl) (fun K hK => ?_)
      simp only [withs, Act.put, List.setIfInBounds_toArray, List.set_cons_succ, List.set_cons_zero]
      go_simp
      exact hK _ _ ⟨[x0, x1, x2, x3, x4, x5, x6, (.agg #[.int .i64 4, .int .i64 0, .string ⟨#[]⟩, .string ⟨#[]⟩, .slice none 0 0, .slice (some ⟨wx.heap.size + 1, 0, none⟩) 2 2]), x8, x9, x10], (by simp only [withs, Act.put, List.setIfInBounds_toArray, List.set_cons_succ, List.set_cons_zero]), (hJ.st7).mk_⟩
    · obtain rfl := hJ.h7 (hp 7 (of_decide_eq_true (by kernel_rfl)))
      refine wpOp_run rfl (by rfl) (fun K hK => ?_)
      simp only [withs, Act.put, List.setIfInBounds_toArray, List.set_cons_succ, List.set_cons_zero]
      go_simp
      exact hK _ _ ⟨[x0, x1, x2, x3, x4, x5, x6, (.agg #[.int .i64 4, .int .i64 0, .string ⟨#[]⟩, .string ⟨#[]⟩, .slice none 0 0, .slice (some ⟨wx.heap.size + 1, 0, none⟩) 2 2]), (.slice (some ⟨W.heap.size, 0, none⟩) 1 1), x9, x10], (by simp only [withs, Act.put, List.setIfInBounds_toArray, List.set_cons_succ, List.set_cons_zero]), (hJ.st8 hn).mk_⟩
    · obtain rfl := hJ.h2 (hp 2 (of_decide_eq_true (by kernel_rfl)))
      obtain rfl := hJ.h6 (hp 6 (of_decide_eq_true (by kernel_rfl)))
      obtain ⟨rfl, -, -⟩ := hJ.h8 (hp 8 (of_decide_eq_true (by kernel_rfl)))
      refine wpOp_run rfl (by rfl) (fun K hK => ?_)
      simp only [withs, Act.put, List.setIfInBounds_toArray, List.set_cons_succ, List.set_cons_zero]
      go_simp
      exact hK _ _ ⟨[x0, x1, (.int .i64 ((n : Int) + 1)), x3, x4, x5, (.agg #[.string sq, .slice Aq nq cq]), x7, (.slice (some ⟨g, 0, none⟩) 1 1), (.agg #[.int .i64 3, .int .i64 ((n : Int) + 1), .string ⟨#[]⟩, .string sq, .slice Aq nq cq, .slice (some ⟨g, 0, none⟩) 1 1]), x10], (by simp only [withs, Act.put, List.setIfInBounds_toArray, List.set_cons_succ, List.set_cons_zero]), (hJ.st9 (hp 8 (of_decide_eq_true (by kernel_rfl)))).mk_⟩
    · skip
      refine wpOp_run rfl (by rfl) (fun K hK => ?_)
      simp only [withs, Act.put, List.setIfInBounds_toArray, List.set_cons_succ, List.set_cons_zero]
      go_simp
      exact hK _ _ ⟨[x0, x1, x2, x3, x4, x5, x6, x7, x8, x9, (.pointer (some ⟨W.heap.size, 0, none⟩))], (by simp only [withs, Act.put, List.setIfInBounds_toArray, List.set_cons_succ, List.set_cons_zero]), (hJ.st10 hn).mk_⟩
    · obtain rfl := hJ.h9 (hp 9 (of_decide_eq_true (by kernel_rfl)))
      obtain ⟨rfl, hgy, v0, v1, v2, v3, v4, v5, hyy⟩ := hJ.h10 (hp 10 (of_decide_eq_true (by kernel_rfl)))
      have hc0 := cv0 hyy
      have hc1 := cv1 hyy
      have hc2 := cv2 hyy
      have hc3 := cv3 hyy
      have hc4 := cv4 hyy
      have hc5 := cv5 hyy
      have hf0 := free_heap hyy 0
      have hf1 := free_heap hyy 1
      have hf2 := free_heap hyy 2
      have hf3 := free_heap hyy 3
      have hf4 := free_heap hyy 4
      have hf5 := free_heap hyy 5
      have hyl := lt_heap hyy
      refine wpOp_run rfl (by rfl) (fun K hK => ?_)
      simp only [withs, Act.put, List.setIfInBounds_toArray, List.set_cons_succ, List.set_cons_zero]
      go_simp
      exact hK _ _ ⟨[x0, x1, x2, x3, x4, x5, x6, x7, x8, (.agg #[.int .i64 3, .int .i64 ((n : Int) + 1), .string ⟨#[]⟩, .string sq, .slice Aq nq cq, .slice (some ⟨g, 0, none⟩) 1 1]), (.pointer (some ⟨gy, 0, none⟩))], (by simp only [withs, Act.put, List.setIfInBounds_toArray, List.set_cons_succ, List.set_cons_zero]), (hJ.st11 (hp 9 (of_decide_eq_true (by kernel_rfl))) (hp 10 (of_decide_eq_true (by kernel_rfl)))).mk_⟩

theorem longR_any : ∀ (k : Nat) (x : Nm) (e : List (Nat × Sy)) (s : Sy) (hd : Bool) (n : Nat) (r : Int) (cs : List Value) (uv : Value) (bn br : Nat) (w : World) (S : Nat → Prop), LongPre k 0 x e s n r cs uv bn br w S →
    Calls Tryd.prog 55 #[.agg cs.toArray, uv, .bool hd, .pointer (some ⟨bn, 0, none⟩), .pointer (some ⟨br, 0, none⟩)] w (LongAt k x e hd n r bn br w S) := by
  intro k
  induction k with
  | zero =>
    intro x e s hd n r cs uv bn br w S h
    exact longR_neg 0 0 x e s hd n r cs uv bn br w S (by have := h.rk; omega) h
  | succ k ih =>
    intro x e s hd n r cs uv bn br w S h
    by_cases hr : r < 0
    · exact longR_neg (k + 1) 0 x e s hd n r cs uv bn br w S hr h
    have hih : ∀ (x' : Nm) (e' : List (Nat × Sy)) (s' : Sy) (hd' : Bool) (n' : Nat) (r' : Int) (cs' : List Value) (uv' : Value) (w' : World) (S' : Nat → Prop), LongPre k 0 x' e' s' n' r' cs' uv' bn br w' S' →
      Calls Tryd.prog 55 #[.agg cs'.toArray, uv', .bool hd', .pointer (some ⟨bn, 0, none⟩), .pointer (some ⟨br, 0, none⟩)] w' (LongAt k x' e' hd' n' r' bn br w' S') := fun x' e' s' hd' n' r' cs' uv' w' S' h' => ih x' e' s' hd' n' r' cs' uv' bn br w' S' h'
    by_cases hp : x.isAbs = true ∨ x.plain e hd
    · exact longR_node k 0 x e s hd n r cs uv bn br w S hr (by omega) hp h hih
    · have hx : x.isAbs = false := by cases hh : x.isAbs; rfl; exact absurd (Or.inl hh) hp
      have hd0 : hd = false := by cases hd; rfl; exact absurd (Or.inr (Or.inl rfl)) hp
      subst hd0
      cases s with
      | e => exact absurd (Or.inr (Or.inr ⟨.e, h.typ, rfl⟩)) hp
      | t => exact absurd (Or.inr (Or.inr ⟨.t, h.typ, rfl⟩)) hp
      | fn a b => exact longR_eta k x e a b n r cs uv bn br w S hr hx h (fun cs' uv' w' S' h' => longR_node k 4 (.abs (n + 1) a (.app x (.var (n + 1)))) e (.fn a b) false (n + 1) r cs' uv' bn br w' S' hr (by omega) (Or.inl rfl) h' hih)


theorem long_none {v : Tv} {s : Sy} (hty : v.typ [] = some s) (hst : Tv.steps 2001 v = none) : Tv.long v = none := by
  unfold Tv.long
  rw [hty, hst]
/-- The reference's long form is the program's: either there is none within the room, or it is the same one. -/
theorem long_ref {v u : Tv} {s : Sy} {y : Nm} {m : Nat} (hty : v.typ [] = some s) (hst : Tv.steps 2001 v = some u) (hy : y.tv [] = u) (hg : y.good m []) :
    ((Nm.long 2001 y [] false m 2000).2.2 < 0 → Tv.long v = none) ∧ (¬ (Nm.long 2001 y [] false m 2000).2.2 < 0 → Tv.long v = some ((Nm.long 2001 y [] false m 2000).1.tv []) ∧ (Nm.long 2001 y [] false m 2000).1.nodes ≤ 2000) := by
  subst hy
  have h1 := Tv.steps_pars 2001 v _ hst
  have h2 := Tv.steps_typ 2001 v _ [] s hst hty
  have h3 := Nm.long_expand y s m 2001 2001 2000 (by omega) (by omega) hg h1.2.1 h2
  have h4 := Nm.long_LF 2001 y [] false s m 2000 (by omega) hg (by simp) h1.2.1 h2 (by simp)
  have h5 : Tv.long v = if (Tv.expand 2001 (y.tv []) s [] 2000).2 < 0 then none else some (Tv.expand 2001 (y.tv []) s [] 2000).1 := by
    unfold Tv.long
    rw [hty, hst]
  rw [h5]
  refine ⟨fun h => ?_, fun h => ?_⟩
  · rw [if_pos (by
      rcases Int.lt_or_le (Tv.expand 2001 (y.tv []) s [] 2000).2 0 with h6 | h6
      · exact h6
      · have := h3.1.2 h6; omega)]
  · have h0 : 0 ≤ (Nm.long 2001 y [] false m 2000).2.2 := by omega
    rw [if_neg (by have := h3.1.1 h0; omega), ← h3.2 h0]
    have h6 := (h4.2.2.2 h0).1
    exact ⟨rfl, by omega⟩

set_option maxRecDepth 100000 in
set_option maxHeartbeats 4000000 in
theorem refLong_any (v : Tv) {sv : Sy} (hty : v.typ [] = some sv) (cs : List Value) (w : World) (S : Nat → Prop) (hok : v.ok 0) (hn : v.nodes ≤ 200) (h : tmRep.R w S v.tm cs) (hS : ∀ b, S b → b < w.heap.size) :
    Calls Tryd.prog 25 #[.agg cs.toArray] w (RefFormAt Tv.long v w) := by
  obtain ⟨s0, A0, n0, c0, B0, m0, d0, rfl, _, _⟩ := Tm.shape h
  have hgood := Nm.of_tv v [] 0 hok List.nodup_nil (by simp)
  have hnx := Nm.of_nodes hok
  have hle := Nm.of_le v [] 0
  have hna := fun (o p q : Obj) (hq : q = .cells #[.int .i64 0] 3) => Lib.hid (names_any v.nodes v [] 0 [.int .i64 v.tm.lab.kind, .string v.tm.lab.nm, .int .i64 v.tm.lab.ix, .string s0, .slice A0 n0 c0, .slice B0 m0 d0] (.slice none 0 0) (((w.alloc o).alloc p).alloc q) S (fun _ => False) (w.heap.size + 1 + 1) (Nat.le_refl _) hok (by omega) (by simp; omega)
    (tmRep.keep h (fun k hk => heap_old (by have := hS k hk; simp; omega) (heap_old (by have := hS k hk; simp; omega) (heap_old (hS k hk) rfl))) (fun _ h => h)) Rep.Sl.nil (fun k hk => ⟨by have := hS k hk; simp; omega, by have := hS k hk; omega⟩) (fun _ h => h.elim) (by subst hq; exact heap_at (by simp)))
  generalize hX : (Nm.of v [] 0).1 = x at *
  generalize hN : (Nm.of v [] 0).2 = n at *
  have HXX := Lib.hid hX
  have HNN := Lib.hid hN
  clear hX hN h
  have HS := Lib.hid hS
  have HNA := Lib.hid hna
  have HOK := Lib.hid hok
  have HTY := Lib.hid hty
  clear hS hna hok hty
  go_enter Tryd.func25, Tryd.ntmps25
  go_wp2_with fail
  (with_reducible refine (HNA.out _ _ _ rfl).out.mono ?_)
  unfold NamesAt
  rw [HXX.out, HNN.out]
  rintro e w1 ⟨es, rfl, hu, hb1, hm1⟩
  obtain ⟨s1, A1, n1, c1, B1, m1, d1, rfl, _, _⟩ := Nt.shape hu
  have z1 : w.heap.size + 3 ≤ w1.heap.size := by have := hm1.size; simpa using this
  have p0 := (hm1.block w.heap.size (by simp; omega) (by omega)).trans (heap_old (by simp <;> omega) (heap_old (by simp) (heap_at rfl)))
  have p1 := (hm1.block (w.heap.size + 1) (by simp <;> omega) (by omega)).trans (heap_old (by simp) (heap_at (by simp)))
  have hmw : Mods (· = w.heap.size + 1 + 1) w.heap.size w w1 := (Mods.below (by go_grown : Below w.heap.size w (((w.alloc _).alloc _).alloc _))).trans (hm1.mono (by simp; omega))
  have hu' : nmRep.R w1 (fun k => S k ∨ (w.heap.size + 3 ≤ k ∧ k < w1.heap.size)) x.tr [.int .i64 x.tr.lab.kind, .int .i64 x.tr.lab.id, .string x.tr.lab.nm, .string s1, .slice A1 n1 c1, .slice B1 m1 d1] := nmRep.keep hu (fun _ _ => rfl) (fun k hk => hk.imp_right (fun hk => by have := hk.1; simp at this; exact ⟨by omega, hk.2⟩))
  have hno := Lib.hid (normR_any x n [.int .i64 x.tr.lab.kind, .int .i64 x.tr.lab.id, .string x.tr.lab.nm, .string s1, .slice A1 n1 c1, .slice B1 m1 d1] w1 (fun k => S k ∨ (w.heap.size + 3 ≤ k ∧ k < w1.heap.size)) (w.heap.size + 1 + 1) (by omega) hgood.2.1 (by omega) hu' (fun k hk => by
    rcases hk with hk | hk
    · have := HS.out k hk; exact ⟨by omega, by omega⟩
    · exact ⟨hk.2, by omega⟩) hb1)
  rw [hgood.1] at hno
  clear hu hu' hgood
  have HM1 := Lib.hid hm1
  have HMW := Lib.hid hmw
  have HNO := Lib.hid hno
  have HB1 := Lib.hid hb1
  clear hm1 hmw hno hb1
  have p0_0 := cv0 p0
  have p0_1 := cv1 p0
  have p0_2 := cv2 p0
  have p0_3 := cv3 p0
  have p0_4 := cv4 p0
  have p0_5 := cv5 p0
  have p0_l := lt_heap p0
  have P0 := Lib.hid p0
  clear p0
  have p1_0 := cv0 p1
  have p1_1 := cv1 p1
  have p1_2 := cv2 p1
  have p1_3 := cv3 p1
  have p1_4 := cv4 p1
  have p1_5 := cv5 p1
  have p1_f0 := free_heap p1 0
  have p1_f1 := free_heap p1 1
  have p1_f2 := free_heap p1 2
  have p1_f3 := free_heap p1 3
  have p1_f4 := free_heap p1 4
  have p1_f5 := free_heap p1 5
  have p1_l := lt_heap p1
  have P1 := Lib.hid p1
  clear p1
  go_wp2_with fail
  (with_reducible refine HNO.out.out.mono ?_)
  unfold NormAt
  rintro e w2 ⟨y, es, m, rfl, hu, hyt, hb2, hmm, hm2⟩
  obtain ⟨s2, A2, n2, c2, B2, m2, d2, rfl, _, _⟩ := Nt.shape hu
  have z2 : w1.heap.size ≤ w2.heap.size := hm2.size
  have p1 := (hm2.block (w.heap.size + 1) (by omega) (by omega)).trans P1.out
  have hmw2 : Mods (· = w.heap.size + 1 + 1) w.heap.size w w2 := HMW.out.trans (hm2.mono (by omega))
  have hu' : nmRep.R w2 (fun k => S k ∨ (w.heap.size + 3 ≤ k ∧ k < w2.heap.size)) y.tr [.int .i64 y.tr.lab.kind, .int .i64 y.tr.lab.id, .string y.tr.lab.nm, .string s2, .slice A2 n2 c2, .slice B2 m2 d2] := nmRep.keep hu (fun _ _ => rfl) (fun k hk => by
    rcases hk with (hk | hk) | hk
    · exact Or.inl hk
    · exact Or.inr ⟨hk.1, by omega⟩
    · exact Or.inr ⟨by have := hk.1; omega, hk.2⟩)
  have hs2 : ∀ k, (S k ∨ (w.heap.size + 3 ≤ k ∧ k < w2.heap.size)) → k < w2.heap.size := fun k hk => by
    rcases hk with hk | hk
    · have := HS.out k hk; omega
    · exact hk.2
  clear p0_0 p0_1 p0_2 p0_3 p0_4 p0_5 p0_l p1_0 p1_1 p1_2 p1_3 p1_4 p1_5 p1_f0 p1_f1 p1_f2 p1_f3 p1_f4 p1_f5 p1_l
  cases hr : Tv.steps 2001 v with
  | none =>
    have HR := Lib.hid (long_none HTY.out hr)
    clear hu hu' hs2 hyt hr hmm
    have HM2 := Lib.hid hm2
    have HMW2 := Lib.hid hmw2
    clear hm2 hmw2
    have p1_0 := cv0 p1
    have p1_1 := cv1 p1
    have p1_2 := cv2 p1
    have p1_3 := cv3 p1
    have p1_4 := cv4 p1
    have p1_5 := cv5 p1
    have p1_f0 := free_heap p1 0
    have p1_f1 := free_heap p1 1
    have p1_f2 := free_heap p1 2
    have p1_f3 := free_heap p1 3
    have p1_f4 := free_heap p1 4
    have p1_f5 := free_heap p1 5
    have p1_l := lt_heap p1
    have P1 := Lib.hid p1
    clear p1
    simp only [Option.isSome_none]
    go_upto_region 4 with (fail)
    go_cut [3] (fun s3 wx => s3 = .bool false ∧ Mods (· = w.heap.size + 1 + 1) w.heap.size w wx ∧ wx.heap[w.heap.size + 1]? = some (.cells #[.int .i64 0, .string ⟨#[]⟩, .int .i64 0, .string ⟨#[]⟩, .slice none 0 0, .slice none 0 0] 27 (0, 0)))
    case first =>
      go_wp2_with fail
      go_meet
      exact ⟨rfl, (mods6 HMW2.out (by omega)).alloc (le6 (by omega)) _, heap_old (lt6 p1_l) (at6 P1.out)⟩
    case rest =>
      obtain ⟨rfl, hbx, k2⟩ := hcut
      rename World => wx
      clear p1_0 p1_1 p1_2 p1_3 p1_4 p1_5 p1_f0 p1_f1 p1_f2 p1_f3 p1_f4 p1_f5 p1_l
      have HBX := Lib.hid hbx
      clear hbx
      have k2_0 := cv0 k2
      have k2_1 := cv1 k2
      have k2_2 := cv2 k2
      have k2_3 := cv3 k2
      have k2_4 := cv4 k2
      have k2_5 := cv5 k2
      have k2_l := lt_heap k2
      have K2 := Lib.hid k2
      clear k2
      go_wp2_with fail
      refine bodyPost_ret (v := .tuple #[.agg #[.int .i64 0, .string ⟨#[]⟩, .int .i64 0, .string ⟨#[]⟩, .slice none 0 0, .slice none 0 0], .bool false]) (by simp [results, Tryd.results25, go_sem, k2_0, k2_1, k2_2, k2_3, k2_4, k2_5, k2_l]) rfl ?_
      unfold RefFormAt
      rw [HR.out]
      exact ⟨tmZero0, [.int .i64 0, .string ⟨#[]⟩, .int .i64 0, .string ⟨#[]⟩, .slice none 0 0, .slice none 0 0], rfl, tmZero0_in, fun u h => by simp at h, HBX.out.toBelow (fun k hk => by have h2 : k = w.heap.size + 1 + 1 := hk; omega)⟩
  | some u =>
    obtain ⟨hy1, hy2, hy3⟩ := hyt u hr
    have hlr := long_ref HTY.out hr hy1 hy2
    have hpre : LongPure 2001 0 y [] sv m 2000 := ⟨by omega, by simp only [List.length_nil]; omega, by omega, by omega, by omega, hy2, by simp, List.nodup_nil, by show Tv.typ [] (y.tv []) = some sv; rw [hy1]; exact Tv.steps_typ 2001 v u [] sv hr HTY.out⟩
    have hlg := Lib.hid (longR_any 2001 y [] sv false m 2000 [.int .i64 y.tr.lab.kind, .int .i64 y.tr.lab.id, .string y.tr.lab.nm, .string s2, .slice A2 n2 c2, .slice B2 m2 d2] (.slice none 0 0) (w.heap.size + 1 + 1) (w2.heap.size + 1) ((w2.alloc (.cells #[.int .i64 y.tr.lab.kind, .int .i64 y.tr.lab.id, .string y.tr.lab.nm, .string s2, .slice A2 n2 c2, .slice B2 m2 d2] 65)).alloc (.cells #[.int .i64 2000] 3)) (fun k => S k ∨ (w.heap.size + 3 ≤ k ∧ k < w2.heap.size)) ⟨hpre, nmRep.keep hu' (fun k hk => heap_old (by have := hs2 k hk; simp; omega) (heap_old (hs2 k hk) rfl)) (fun _ h => h), KnAt.nil, fun k hk => ⟨by have := hs2 k hk; simp; omega, by rcases hk with h | h; have := HS.out k h; omega; omega, by have := hs2 k hk; omega⟩, by omega, heap_old (by simp; omega) (heap_old (by omega) hb2), heap_at (by simp)⟩)
    clear hu hu' hs2 hyt hr hy2 hy3 hpre hmm
    have HM2 := Lib.hid hm2
    have HMW2 := Lib.hid hmw2
    have HLG := Lib.hid hlg
    have HY1 := Lib.hid hy1
    have HLR := Lib.hid hlr
    have HB2 := Lib.hid hb2
    clear hm2 hmw2 hlg hy1 hlr hb2
    have p1_0 := cv0 p1
    have p1_1 := cv1 p1
    have p1_2 := cv2 p1
    have p1_3 := cv3 p1
    have p1_4 := cv4 p1
    have p1_5 := cv5 p1
    have p1_f0 := free_heap p1 0
    have p1_f1 := free_heap p1 1
    have p1_f2 := free_heap p1 2
    have p1_f3 := free_heap p1 3
    have p1_f4 := free_heap p1 4
    have p1_f5 := free_heap p1 5
    have p1_l := lt_heap p1
    have P1 := Lib.hid p1
    clear p1
    simp only [Option.isSome_some]
    go_wp2_with fail
    (with_reducible refine HLG.out.out.mono ?_)
    unfold LongAt
    rintro e w3 ⟨es, rfl, hu, hn3, hr3, hm3⟩
    obtain ⟨s3, A3, n3, c3, B3, m3, d3, rfl, _, _⟩ := Nt.shape hu
    have z3 : w2.heap.size + 2 ≤ w3.heap.size := by have := hm3.size; simpa using this
    have p1 := (hm3.block (w.heap.size + 1) (by simp; omega) (by rintro (h | h); omega; omega)).trans (heap_old (by simp; omega) (heap_old p1_l P1.out))
    have hB3 : Mods (fun k => k = w.heap.size + 1 + 1 ∨ k = w2.heap.size + 1) w.heap.size w w3 := (((HMW2.out.weak (fun k _ h => Or.inl h)).alloc (by omega) (.cells #[.int .i64 y.tr.lab.kind, .int .i64 y.tr.lab.id, .string y.tr.lab.nm, .string s2, .slice A2 n2 c2, .slice B2 m2 d2] 65)).alloc (by simp; omega) (.cells #[.int .i64 2000] 3)).trans (hm3.mono (by simp; omega))
    have hu' : nmRep.R w3 (fun k => S k ∨ (w.heap.size + 3 ≤ k ∧ k < w3.heap.size)) (Nm.long 2001 y [] false m 2000).1.tr [.int .i64 (Nm.long 2001 y [] false m 2000).1.tr.lab.kind, .int .i64 (Nm.long 2001 y [] false m 2000).1.tr.lab.id, .string (Nm.long 2001 y [] false m 2000).1.tr.lab.nm, .string s3, .slice A3 n3 c3, .slice B3 m3 d3] := nmRep.keep hu (fun _ _ => rfl) (fun k hk => by
      rcases hk with (hk | hk) | hk
      · exact Or.inl hk
      · exact Or.inr ⟨hk.1, by omega⟩
      · exact Or.inr ⟨by have := hk.1; simp at this; omega, hk.2⟩)
    have hs3 : ∀ k, (S k ∨ (w.heap.size + 3 ≤ k ∧ k < w3.heap.size)) → k < w3.heap.size := fun k hk => by
      rcases hk with hk | hk
      · have := HS.out k hk; omega
      · exact hk.2
    clear p1_0 p1_1 p1_2 p1_3 p1_4 p1_5 p1_f0 p1_f1 p1_f2 p1_f3 p1_f4 p1_f5 p1_l hu
    have hr3_0 := cv0 hr3
    have hr3_l := lt_heap hr3
    have hr3_m : w2.heap.size + 1 < w3.heap.size + 1 := by omega
    have HM3 := Lib.hid hm3
    have HB3 := Lib.hid hB3
    have HN3 := Lib.hid hn3
    have HR3 := Lib.hid hr3
    clear hm3 hB3 hn3 hr3
    by_cases hneg : (Nm.long 2001 y [] false m 2000).2.2 < 0
    · have HR := Lib.hid ((HLR.out).1 hneg)
      clear hu' hs3
      have p1_0 := cv0 p1
      have p1_1 := cv1 p1
      have p1_2 := cv2 p1
      have p1_3 := cv3 p1
      have p1_4 := cv4 p1
      have p1_5 := cv5 p1
      have p1_f0 := free_heap p1 0
      have p1_f1 := free_heap p1 1
      have p1_f2 := free_heap p1 2
      have p1_f3 := free_heap p1 3
      have p1_f4 := free_heap p1 4
      have p1_f5 := free_heap p1 5
      have p1_l := lt_heap p1
      have P1 := Lib.hid p1
      clear p1
      go_upto_region 8 with (fail)
      go_cut [3] (fun s3 wx => s3 = .bool false ∧ Mods (fun k => k = w.heap.size + 1 + 1 ∨ k = w2.heap.size + 1) w.heap.size w wx ∧ wx.heap[w.heap.size + 1]? = some (.cells #[.int .i64 0, .string ⟨#[]⟩, .int .i64 0, .string ⟨#[]⟩, .slice none 0 0, .slice none 0 0] 27 (0, 0)))
      case first =>
        go_wp2_with fail
        go_meet
        exact ⟨rfl, (mods6 HB3.out (by omega)).alloc (le6 (by omega)) _, heap_old (lt6 p1_l) (at6 P1.out)⟩
      case rest =>
        obtain ⟨rfl, hbx, k2⟩ := hcut
        rename World => wx
        clear p1_0 p1_1 p1_2 p1_3 p1_4 p1_5 p1_f0 p1_f1 p1_f2 p1_f3 p1_f4 p1_f5 p1_l
        have HBX := Lib.hid hbx
        clear hbx
        have k2_0 := cv0 k2
        have k2_1 := cv1 k2
        have k2_2 := cv2 k2
        have k2_3 := cv3 k2
        have k2_4 := cv4 k2
        have k2_5 := cv5 k2
        have k2_l := lt_heap k2
        have K2 := Lib.hid k2
        clear k2
        go_wp2_with fail
        refine bodyPost_ret (v := .tuple #[.agg #[.int .i64 0, .string ⟨#[]⟩, .int .i64 0, .string ⟨#[]⟩, .slice none 0 0, .slice none 0 0], .bool false]) (by simp [results, Tryd.results25, go_sem, k2_0, k2_1, k2_2, k2_3, k2_4, k2_5, k2_l]) rfl ?_
        unfold RefFormAt
        rw [HR.out]
        exact ⟨tmZero0, [.int .i64 0, .string ⟨#[]⟩, .int .i64 0, .string ⟨#[]⟩, .slice none 0 0, .slice none 0 0], rfl, tmZero0_in, fun u h => by simp at h, HBX.out.toBelow (fun k hk => by rcases hk with h | h; omega; omega)⟩
    · obtain ⟨hlong, hnd⟩ := (HLR.out).2 (by omega)
      have hba := fun (o : Obj) => Lib.hid (back_any (Nm.long 2001 y [] false m 2000).1.nodes (Nm.long 2001 y [] false m 2000).1 [] [.int .i64 (Nm.long 2001 y [] false m 2000).1.tr.lab.kind, .int .i64 (Nm.long 2001 y [] false m 2000).1.tr.lab.id, .string (Nm.long 2001 y [] false m 2000).1.tr.lab.nm, .string s3, .slice A3 n3 c3, .slice B3 m3 d3] (.slice none 0 0) (w3.alloc o) (fun k => S k ∨ (w.heap.size + 3 ≤ k ∧ k < w3.heap.size)) (fun _ => False) (Nat.le_refl _) (by simp; omega) (nmRep.keep hu' (fun k hk => heap_old (hs3 k hk) rfl) (fun _ h => h)) Rep.Sl.nil (fun k hk => by have := hs3 k hk; simp; omega) (fun _ h => h.elim))
      have HR := Lib.hid hlong
      clear hu' hs3 hlong hnd
      have HBA := Lib.hid hba
      clear hba
      have p1_0 := cv0 p1
      have p1_1 := cv1 p1
      have p1_2 := cv2 p1
      have p1_3 := cv3 p1
      have p1_4 := cv4 p1
      have p1_5 := cv5 p1
      have p1_f0 := free_heap p1 0
      have p1_f1 := free_heap p1 1
      have p1_f2 := free_heap p1 2
      have p1_f3 := free_heap p1 3
      have p1_f4 := free_heap p1 4
      have p1_f5 := free_heap p1 5
      have p1_l := lt_heap p1
      have P1 := Lib.hid p1
      clear p1
      go_wp2_with fail
      (with_reducible refine (HBA.out _).out.mono ?_)
      unfold BackAt
      rintro e w4 ⟨es, rfl, hu, hw4⟩
      obtain ⟨s4, A4, n4, c4, B4, m4, d4, rfl, _, _⟩ := Tm.shape hu
      have z4 : w3.heap.size + 1 ≤ w4.heap.size := by have := hw4.size; simpa using this
      have p1 := (hw4.block (w.heap.size + 1) (by simp; omega)).trans (heap_old p1_l P1.out)
      have hB4 : Mods (fun k => k = w.heap.size + 1 + 1 ∨ k = w2.heap.size + 1) w.heap.size w w4 := (HB3.out.alloc (by omega) (.cells #[.int .i64 (Nm.long 2001 y [] false m 2000).1.tr.lab.kind, .int .i64 (Nm.long 2001 y [] false m 2000).1.tr.lab.id, .string (Nm.long 2001 y [] false m 2000).1.tr.lab.nm, .string s3, .slice A3 n3 c3, .slice B3 m3 d3] 65)).thenBelow (hw4.mono (by simp; omega))
      clear p1_0 p1_1 p1_2 p1_3 p1_4 p1_5 p1_f0 p1_f1 p1_f2 p1_f3 p1_f4 p1_f5 p1_l hr3_0 hr3_l hr3_m
      have HU := Lib.hid hu
      have HB4 := Lib.hid hB4
      have HW4 := Lib.hid hw4
      clear hu hB4 hw4
      have p1_0 := cv0 p1
      have p1_1 := cv1 p1
      have p1_2 := cv2 p1
      have p1_3 := cv3 p1
      have p1_4 := cv4 p1
      have p1_5 := cv5 p1
      have p1_f0 := free_heap p1 0
      have p1_f1 := free_heap p1 1
      have p1_f2 := free_heap p1 2
      have p1_f3 := free_heap p1 3
      have p1_f4 := free_heap p1 4
      have p1_f5 := free_heap p1 5
      have p1_l := lt_heap p1
      have P1 := Lib.hid p1
      clear p1
      go_wp2_with fail
      refine bodyPost_ret (v := .tuple #[.agg #[.int .i64 ((Nm.long 2001 y [] false m 2000).1.tv []).tm.lab.kind, .string ((Nm.long 2001 y [] false m 2000).1.tv []).tm.lab.nm, .int .i64 ((Nm.long 2001 y [] false m 2000).1.tv []).tm.lab.ix, .string s4, .slice A4 n4 c4, .slice B4 m4 d4], .bool true]) (by simp [results, Tryd.results25, go_sem, p1_0, p1_1, p1_2, p1_3, p1_4, p1_5, p1_l]) rfl ?_
      unfold RefFormAt
      rw [HR.out]
      refine ⟨((Nm.long 2001 y [] false m 2000).1.tv []).tm, _, rfl, ?_, fun u' h => by rw [Option.some.inj h], (mods6 HB4.out (by omega)).toBelow (fun k hk => by rcases hk with h | h; omega; omega)⟩
      refine tmRep.keep HU.out (fun k hk => far6 ?_ rfl) (fun k hk => ?_)
      · rcases hk with (hk | hk) | hk
        · have := HS.out k hk; omega
        · omega
        · have := hk.1; simp at this; omega
      · rcases hk with (hk | hk) | hk
        · exact (show k < _ from lt6 (by have := HS.out k hk; omega))
        · exact (show k < _ from lt6 (by omega))
        · exact (show k < _ from lt6 hk.2)

end Go.Proofs.YthflahcnkhmpaabDoor
