/-
  The law ReduceUndoesBind: the walk.
-/
import Derived.Test.YthflahcnkhmpaabDoorProg
import Derived.Test.YthflahcnkhmpaabDoorRedex
import Derived.Test.YthflahcnkhmpaabDoorStepOf
import Derived.Test.YthflahcnkhmpaabDoorBind
import Derived.Test.YthflahcnkhmpaabDoorEqTm
import Derived.Test.YthflahcnkhmpaabDoorUndoJ
import Derived.Deep.QuietTactic
import Derived.BigQuiet
import Derived.WalkSmall
namespace Go.Proofs.YthflahcnkhmpaabDoor
open Go Go.RowKit
set_option linter.unusedSimpArgs false
set_option linter.unusedVariables false

theorem BindAt.cases {t : Tm} {nm : ByteArray} {w w' : World} {e : Ending} (h : BindAt t nm w e w') :
    (∃ c i : Int, c ≠ 0 ∧ e = .returned (.tuple #[.agg zTm, .agg #[.int .i64 c, .int .i64 i]])) ∨
    (∃ (v : Tv) (s : Sy) (ds : List Value), t = v.tm ∧ v.ok 0 ∧ v.nodes ≤ 200 ∧ v.depth ≤ 40 ∧ Tv.typ [] v = some s ∧ bindCode nm v = 0 ∧ e = .returned (.tuple #[.agg ds.toArray, .agg #[.int .i64 0, .int .i64 0]]) ∧ tmRep.R w' (Fresh w w') (bindTerm nm v).tm ds) := by
  by_cases hz : (tmFault t).1 = 0
  case neg => exact Or.inl ⟨_, _, by omega, h.1 hz⟩
  obtain ⟨v, s, rfl, ov, nv, dv, tv, ev⟩ := tmFault_zero hz
  obtain ⟨h1, h2⟩ := h.2.1 v rfl hz
  by_cases hc : bindCode nm v = 0
  · obtain ⟨ds, h3, h4⟩ := h2 hc
    exact Or.inr ⟨v, s, ds, rfl, ov, nv, dv, tv, hc, h3, h4⟩
  · exact Or.inl ⟨_, _, by omega, h1 hc⟩
theorem bindCode_kim : bindCode bKim tvKim = 0 := by simp [bindCode, tvKim, Tv.named, alike, Tv.nodes, Tv.depth]
theorem bindTerm_kim : bindTerm bKim tvKim = tvId := by simp [bindTerm, tvKim, Tv.named, Tv.bind, tvId]
theorem kim_fault : tmFault tvKim.tm = (0, 0) := tmFault_ok (s := .e) tvKim_ok (by decide) (by decide) rfl
theorem BindAt.kim {w w' : World} {e : Ending} (h : BindAt tvKim.tm bKim w e w') : ∃ ds : List Value, e = .returned (.tuple #[.agg ds.toArray, .agg #[.int .i64 0, .int .i64 0]]) ∧ tmRep.R w' (Fresh w w') tvId.tm ds := by
  have := (h.2.1 tvKim rfl (by rw [kim_fault])).2 bindCode_kim
  rwa [bindTerm_kim] at this
/-- What is to be known of a bound term, applied to the constant. -/
structure Undo (v : Tv) (nm : ByteArray) (a s : Sy) : Prop where
  eq : bindTerm nm v = .abs a (v.bind nm 0)
  fb : (tmFault (bindTerm nm v).tm).1 = 0
  fc : (tmFault (Tv.con nm a).tm).1 = 0
  ty : Tv.typ [] (.app (bindTerm nm v) (.con nm a)) = some s
  st : (Tv.app (bindTerm nm v) (.con nm a)).step = some v
  ok : (Tv.app (bindTerm nm v) (.con nm a)).ok 0
theorem undo_of {v : Tv} {nm : ByteArray} {s : Sy} (ov : v.ok 0) (tv : Tv.typ [] v = some s) (hc : bindCode nm v = 0) : ∃ a, Undo v nm a s := by
  obtain ⟨a, h1, h2, h3, h4, h5, h6, h7, h8⟩ := bind_valid ov tv hc
  refine ⟨a, h1, by rw [tmFault_ok h4 h6 h7 h5], by rw [tmFault_ok (v := .con nm a) (s := a) ⟨h2, h3⟩ (by simp [Tv.nodes]) (by simp [Tv.depth]) rfl], ?_, ?_, ⟨h4, h2, h3⟩⟩
  · simp only [Tv.typ, h5, if_true]
  · rw [h1]; simp only [Tv.step, h8]

/-- What Apply returns for them: a term too large, or the application. -/
def UndoRes (v : Tv) (nm : ByteArray) (a : Sy) (w w' : World) (c i : Int) (cs : List Value) : Prop :=
  c = 1 ∨ (c = 0 ∧ i = 0 ∧ (Tv.app (bindTerm nm v) (.con nm a)).nodes ≤ 200 ∧ (Tv.app (bindTerm nm v) (.con nm a)).depth ≤ 40 ∧ tmRep.R w' (Fresh w w') (Tv.app (bindTerm nm v) (.con nm a)).tm cs)
theorem Undo.apply {v : Tv} {nm : ByteArray} {a s : Sy} {w w' : World} {e : Ending} (h : Undo v nm a s) (hr : ApplyAt (bindTerm nm v).tm (Tv.con nm a).tm w e w') :
    ∃ (kT : Int) (nmT : ByteArray) (ixT : Int) (sT : ByteArray) (AT : Option Addr) (nT cT : Nat) (BT : Option Addr) (mT dT : Nat) (c i : Int), e = .returned (.tuple #[.agg #[.int .i64 kT, .string nmT, .int .i64 ixT, .string sT, .slice AT nT cT, .slice BT mT dT], .agg #[.int .i64 c, .int .i64 i]]) ∧
      UndoRes v nm a w w' c i [.int .i64 kT, .string nmT, .int .i64 ixT, .string sT, .slice AT nT cT, .slice BT mT dT] := by
  have h1 := hr.2.2.1 _ _ rfl rfl h.fb h.fc
  unfold ApplyRes at h1
  rw [if_neg (by rw [h.ty]; simp)] at h1
  split at h1
  · exact ⟨_, _, _, _, _, _, _, _, _, _, _, _, h1, Or.inl rfl⟩
  · rename_i h2
    obtain ⟨ds, rfl, h3⟩ := h1
    obtain ⟨s7, A7, n7, c7, B7, m7, d7, rfl, _, _⟩ := Tm.shape h3
    exact ⟨_, _, _, _, _, _, _, _, _, _, _, _, rfl, Or.inr ⟨rfl, rfl, by simp only [Tv.nodes] at h2 ⊢; omega, by simp only [Tv.depth] at h2 ⊢; omega, h3⟩⟩

theorem keep6 {W V : World} {k : Nat} {y0 y1 y2 y3 y4 y5 : Value} (h4 : W.heap[k]? = V.heap[k]?)
    (h : V.cell? ⟨k, 0, none⟩ = some y0 ∧ V.cell? ⟨k, 1, none⟩ = some y1 ∧ V.cell? ⟨k, 2, none⟩ = some y2 ∧ V.cell? ⟨k, 3, none⟩ = some y3 ∧ V.cell? ⟨k, 4, none⟩ = some y4 ∧ V.cell? ⟨k, 5, none⟩ = some y5) :
    W.cell? ⟨k, 0, none⟩ = some y0 ∧ W.cell? ⟨k, 1, none⟩ = some y1 ∧ W.cell? ⟨k, 2, none⟩ = some y2 ∧ W.cell? ⟨k, 3, none⟩ = some y3 ∧ W.cell? ⟨k, 4, none⟩ = some y4 ∧ W.cell? ⟨k, 5, none⟩ = some y5 := by
  obtain ⟨b0, b1, b2, b3, b4, b5⟩ := h
  exact ⟨(cell_keep h4 _).trans b0, (cell_keep h4 _).trans b1, (cell_keep h4 _).trans b2, (cell_keep h4 _).trans b3, (cell_keep h4 _).trans b4, (cell_keep h4 _).trans b5⟩
set_option maxRecDepth 100000 in
set_option maxHeartbeats 40000000 in
theorem undoLaw_any (t : Tm) (cs : List Value) (nm : ByteArray) (w : World) (S : Nat → Prop) (ht : tmRep.R w S t cs) (hnms : nm.size ≤ maxLen) (hS : ∀ b, S b → b < w.heap.size)
    (g0 : w.cell? ⟨0, 0, none⟩ = some (.int .i64 0)) (g1 : w.cell? ⟨0, 1, none⟩ = some (.int .i64 0)) :
    Calls Tryd.prog 8 #[.agg cs.toArray, .string nm] w fun e w' => e = .returned (.bool true) ∧ Below w.heap.size w w' := by
  obtain ⟨s0, A0, n0, c0, B0, m0, d0, rfl, _, _⟩ := Tm.shape ht
  have hg := World.block_lt_of_cell? w _ g0
  have HT := Lib.hid ht
  have HS := Lib.hid hS
  have G0 := Lib.hid g0
  have G1 := Lib.hid g1
  clear ht hS g0 g1
  go_enter Tryd.func8, Tryd.ntmps8
  go_wp2_with fail
  (with_reducible refine (base_e _).mono ?_)
  rintro e w1 ⟨rfl, hw1⟩
  have z1 : w.heap.size + 1 ≤ w1.heap.size := by have := hw1.size; simpa using this
  have p0 := (hw1.block w.heap.size (by simp)).trans (heap_at rfl)
  have hB1 : Below w.heap.size w w1 := ((Below.refl _ w).alloc (Nat.le_refl _) _).trans (hw1.mono (by simp))
  have P0 := Lib.hid p0
  have HB1 := Lib.hid hB1
  have HW1 := Lib.hid hw1
  clear p0 hB1 hw1
  go_wp2_with fail
  (with_reducible refine (kim_any _).mono ?_)
  rintro e w2 ⟨rfl, hw2⟩
  have z2 := hw2.size
  have p0 := (hw2.block _ (by omega)).trans P0.out
  have hB2 := HB1.out.trans (hw2.mono (by omega))
  have hbk := fun (o : Obj) => Lib.hid (bind_any tvKim.tm ⟨#[107, 105, 109]⟩ [.int .i64 1, .string ⟨#[107, 105, 109]⟩, .int .i64 0, .string ⟨#[101]⟩, .slice none 0 0, .slice none 0 0] (w2.alloc o) (fun _ => False) kim_in (by decide +kernel) (fun _ h => h.elim))
  have P0 := Lib.hid p0
  have HB2 := Lib.hid hB2
  have HW2 := Lib.hid hw2
  have HBK := Lib.hid hbk
  clear p0 hB2 hw2 hbk
  go_wp2_with fail
  (with_reducible refine (HBK.out _).out.mono ?_)
  rintro e w3 hr
  have hw3 := hr.2.2
  obtain ⟨ds, rfl, h3⟩ := BindAt.kim hr
  obtain ⟨u0, u1, vs, rfl, -, hty, Av, nv, cv, rfl, -⟩ := Tm.open_ (a := ⟨3, bNil, 0, Sy.e.ty⟩) (l := [(Tv.var 0).tm]) h3
  obtain ⟨sk, Ak, nk, ck, rfl, rfl⟩ := hty.shape
  have z3 : w2.heap.size + 1 ≤ w3.heap.size := by have := hw3.size; simpa using this
  have p0 := (hw3.block w.heap.size (by simp; omega)).trans (heap_old (by have := lt_heap P0.out; omega) P0.out)
  have hB3 := (HB2.out.alloc (by omega) (.cells #[.int .i64 1, .string ⟨#[107, 105, 109]⟩, .int .i64 0, .string ⟨#[101]⟩, .slice none 0 0, .slice none 0 0] 27)).trans (hw3.mono (by simp; omega))
  have c0' := (hB3.cell (p := ⟨0, 0, none⟩) hg).trans G0.out
  have c1' := (hB3.cell (p := ⟨0, 1, none⟩) hg).trans G1.out
  have l2 : 0 < w3.heap.size := by omega
  have l2b : 0 < w3.heap.size + 1 := by omega
  have hS3 : ∀ (o p : Obj) k, S k → ((w3.alloc o).alloc p).heap[k]? = w.heap[k]? := fun o p k hk => by
    have := HS.out k hk
    exact heap_old (by simp; omega) (heap_old (by omega) (hB3.block k this))
  have hbt2 := fun (o p : Obj) => Lib.hid (bind_any t nm [.int .i64 t.lab.kind, .string t.lab.nm, .int .i64 t.lab.ix, .string s0, .slice A0 n0 c0, .slice B0 m0 d0] ((w3.alloc o).alloc p) S (tmRep.keep HT.out (hS3 o p) (fun _ h => h)) hnms (fun k hk => by have := HS.out k hk; simp; omega))
  clear hr h3 hty
  have HW3 := Lib.hid hw3
  have HB3 := Lib.hid hB3
  have HS3 := Lib.hid hS3
  have HBT2 := Lib.hid hbt2
  clear hw3 hB3 hS3 hbt2
  have p0_0 := cv0 p0
  have p0_1 := cv1 p0
  have p0_2 := cv2 p0
  have p0_3 := cv3 p0
  have p0_4 := cv4 p0
  have p0_5 := cv5 p0
  have p0_l := lt_heap p0
  have P0 := Lib.hid p0
  clear p0
  simp only
  go_wp2_with fail
  (with_reducible refine (HBT2.out _ _).out.mono ?_)
  rintro e w4 hr
  have hw4 := hr.2.2
  have z4 : w3.heap.size + 2 ≤ w4.heap.size := by have := hw4.size; simpa using this
  have hB4 := ((HB3.out.alloc (by omega) (.cells #[.int .i64 3, .string bNil, .int .i64 0, .string sk, .slice Ak nk ck, .slice Av nv cv] 27)).alloc (by simp; omega) (.cells #[.int .i64 0, .int .i64 0] 29)).trans (hw4.mono (by simp; omega))
  have p0 := (hw4.block w.heap.size (by simp; omega)).trans (heap_old (by simp; omega) (heap_old p0_l P0.out))
  have c0' := (hB4.cell (p := ⟨0, 0, none⟩) hg).trans G0.out
  have c1' := (hB4.cell (p := ⟨0, 1, none⟩) hg).trans G1.out
  have l3 : 0 < w4.heap.size := by omega
  have l3b : 0 < w4.heap.size + 1 := by omega
  clear p0_0 p0_1 p0_2 p0_3 p0_4 p0_5 p0_l
  rcases hr.cases with ⟨c, i, hc, rfl⟩ | ⟨v, s, ds, rfl, ov, nv', dv, tv, hbc, rfl, hu⟩
  · have hc' : (c == 0) = false := beq_eq_false_iff_ne.2 hc
    clear hr hc
    have HW4 := Lib.hid hw4
    have HB4 := Lib.hid hB4
    have P0 := Lib.hid p0
    clear hw4 hB4 p0
    unfold zTm
    go_wp2_with fail
    go_returns
    exact ⟨rfl, (HB4.out.alloc (by omega) _).alloc (by simp; omega) _⟩
  obtain ⟨a, hun⟩ := undo_of ov tv hbc
  rw [hun.eq] at hu
  obtain ⟨u0, u1, vb, rfl, -, htb, -⟩ := Tm.open_ (a := ⟨3, bNil, 0, a.ty⟩) (l := [(v.bind nm 0).tm]) hu
  obtain ⟨sb, Ab, nb, cb, rfl, rfl⟩ := htb.shape
  obtain ⟨sq, Aq, nq, cq, A5, n5, c5, eq5, _, _⟩ := Tm.shape hu
  obtain rfl : vb = .slice A5 n5 c5 := by simp at eq5; exact eq5.2.2.2.2.2
  clear eq5
  have HU4 := Lib.hid (tmRep.keep (S' := Lo w4) hu (fun _ _ => rfl) (fun k hk => hk.2))
  have HTB4 := Lib.hid (Ty.In_keep (S' := Lo w4) (fun _ _ => rfl) (fun k hk => hk.2) _ _ _ htb)
  have HUN := Lib.hid hun
  have OV := Lib.hid ov
  clear hr hu htb hun ov tv hbc
  have HW4 := Lib.hid hw4
  have HB4 := Lib.hid hB4
  have P0 := Lib.hid p0
  clear hw4 hB4 p0
  go_upto_region 8 with (fail)
  refine gen_last (fun wq => Below w4.heap.size w4 wq ∧ (wq.heap.size ≤ w4.heap.size + 2 ∧ w4.heap.size + 2 ≤ wq.heap.size) ∧ wq.heap[w4.heap.size]? = some (.cells #[.int .i64 3, .string bNil, .int .i64 0, .string sb, .slice Ab nb cb, .slice A5 n5 c5] 27 (0, 0))) ?_ ?_
  · exact ⟨((Below.refl _ w4).alloc (Nat.le_refl _) _).alloc (by simp) _, by simp, heap_old (by simp) (heap_at rfl)⟩
  rintro wq ⟨hbv, zq, q8⟩
  have hBq := HB4.out.trans (hbv.mono (by omega))
  have hbW : ∀ (W : World), Below wq.heap.size wq W → ∀ k, Lo w4 k → k < W.heap.size ∧ W.heap[k]? = w4.heap[k]? := fun W h k hk => by
    have h1 : k < w4.heap.size := hk
    have h2 : wq.heap.size ≤ W.heap.size := h.size
    exact ⟨by omega, (h.block k (by omega)).trans (hbv.block k h1)⟩
  have hinC : ∀ (W : World), Below wq.heap.size wq W → tmRep.R W (Lo w4) (Tv.con nm a).tm [.int .i64 1, .string nm, .int .i64 0, .string sb, .slice Ab nb cb, .slice none 0 0] := fun W h =>
    Tm.shut (a := ⟨1, nm, 0, a.ty⟩) (l := []) hnms (Ty.In_keep (fun k hk => (hbW W h k hk).2) (fun _ h => h) _ _ _ HTB4.out) Rep.Sl.nil
  have hcon := fun (W : World) (h : Below wq.heap.size wq W) => Lib.hid (constant_any nm a.ty (.string sb) (.slice Ab nb cb) W (Lo w4) hnms (Ty.In_keep (fun k hk => (hbW W h k hk).2) (fun _ h => h) _ _ _ HTB4.out) (fun k hk => (hbW W h k hk).1))
  have happ := fun (W : World) (h : Below wq.heap.size wq W) => Lib.hid (apply_any (bindTerm nm v).tm (Tv.con nm a).tm [.int .i64 3, .string bNil, .int .i64 0, .string sb, .slice Ab nb cb, .slice A5 n5 c5] [.int .i64 1, .string nm, .int .i64 0, .string sb, .slice Ab nb cb, .slice none 0 0] W (Lo w4) (by rw [HUN.out.eq]; exact tmRep.keep HU4.out (fun k hk => (hbW W h k hk).2) (fun _ h => h)) (hinC W h) (fun k hk => (hbW W h k hk).1))
  have HCON := Lib.hid hcon
  have HAPP := Lib.hid happ
  have HINC := Lib.hid hinC
  have HBW := Lib.hid hbW
  have HBQ := Lib.hid hBq
  have HBV := Lib.hid hbv
  clear hcon happ hinC hbW hBq hbv
  have q8_0 := cv0 q8
  have q8_1 := cv1 q8
  have q8_2 := cv2 q8
  have q8_3 := cv3 q8
  have q8_4 := cv4 q8
  have q8_5 := cv5 q8
  have q8_l := lt_heap q8
  have Q8 := Lib.hid q8
  clear q8
  have hs4 := And.intro q8_0 (And.intro q8_1 (And.intro q8_2 (And.intro q8_3 (And.intro q8_4 q8_5))))
  have HS4 := Lib.hid hs4
  clear hs4
  have zq4 : w4.heap.size < wq.heap.size := by omega
  go_cut [10, 11] (fun s10 s11 wx => ∃ (ob oc : Nat) (kT : Int) (nmT : ByteArray) (ixT : Int) (sT : ByteArray) (AT : Option Addr) (nT cT : Nat) (BT : Option Addr) (mT dT : Nat) (c i : Int) (w5 w6 : World), s10 = .pointer (some ⟨ob, 0, none⟩) ∧ s11 = .pointer (some ⟨oc, 0, none⟩) ∧
      wx.heap[ob]? = some (.cells #[.int .i64 kT, .string nmT, .int .i64 ixT, .string sT, .slice AT nT cT, .slice BT mT dT] 27 (0, 0)) ∧ wx.heap[oc]? = some (.cells #[.int .i64 c, .int .i64 i] 29 (0, 0)) ∧
      UndoRes v nm a w5 w6 c i [.int .i64 kT, .string nmT, .int .i64 ixT, .string sT, .slice AT nT cT, .slice BT mT dT] ∧ (∀ k, w5.heap.size ≤ k → k < w6.heap.size → k < wx.heap.size ∧ wx.heap[k]? = w6.heap[k]?) ∧ Below wq.heap.size wq wx)
  case first =>
    refine wp_region_frame [40, 41, 42, 43, 44, 45, 39, 46, 47, 10, 11] (UJx (UndoRes v nm a) w4.heap.size nm (.agg #[.int .i64 3, .string bNil, .int .i64 0, .string sb, .slice Ab nb cb, .slice A5 n5 c5]) (.agg #[.string sb, .slice Ab nb cb]) (.agg #[.int .i64 1, .string nm, .int .i64 0, .string sb, .slice Ab nb cb, .slice none 0 0]) wq) (by kernel_rfl) (by kernel_rfl) ?h0 ?hend ?hstep
    case h0 =>
      intro f xs hf hx _
      obtain ⟨x40, x41, x42, x43, x44, x45, x39, x46, x47, x10, x11, rfl⟩ := len11 hx
      exact (UJ.start (ob := 0) (oc := 0) (kT := 0) (nmT := bNil) (ixT := 0) (sT := bNil) (AT := none) (nT := 0) (cT := 0) (BT := none) (mT := 0) (dT := 0) (c := 0) (i := 0) (w5 := wq) (w6 := wq) hf (Below.refl _ wq).drew).mk_
    case hend =>
      rintro f xs W hf ⟨x40, x41, x42, x43, x44, x45, x39, x46, x47, x10, x11, ob, oc, kT, nmT, ixT, sT, AT, nT, cT, BT, mT, dT, c, i, w5, w6, rfl, hJ⟩
      have hf : ∀ k, k < 13 → f k = true := hf
      obtain ⟨rfl, -, -⟩ := hJ.h10 (hf 9 (by decide))
      obtain ⟨rfl, -, -⟩ := hJ.h11 (hf 10 (by decide))
      have s11 := Lib.hid (hJ.s11 (hf 11 (by decide)))
      have s12 := Lib.hid (hJ.s12 (hf 12 (by decide)))
      obtain ⟨-, hr, hk⟩ := hJ.h45 (hf 5 (by decide))
      have hbl := Lib.hid hJ.bel
      have HR := Lib.hid hr
      have HK := Lib.hid hk
      clear hf hr hk hJ
      simp only [withs, Act.put, List.setIfInBounds_toArray, List.set_cons_succ, List.set_cons_zero]
      go_wp2_with fail
      go_meet
      exact ⟨ob, oc, kT, nmT, ixT, sT, AT, nT, cT, BT, mT, dT, c, i, w5, w6, rfl, rfl, s11.out, s12.out, HR.out, HK.out, hbl.out⟩
    case hstep =>
      rintro io hi f xs W hn hp ⟨x40, x41, x42, x43, x44, x45, x39, x46, x47, x10, x11, ob, oc, kT, nmT, ixT, sT, AT, nT, cT, BT, mT, dT, c, i, w5, w6, rfl, hJ⟩
      have hi : io < 13 := hi
      rcases (by omega : io = 0 ∨ io = 1 ∨ io = 2 ∨ io = 3 ∨ io = 4 ∨ io = 5 ∨ io = 6 ∨ io = 7 ∨ io = 8 ∨ io = 9 ∨ io = 10 ∨ io = 11 ∨ io = 12) with rfl | rfl | rfl | rfl | rfl | rfl | rfl | rfl | rfl | rfl | rfl | rfl | rfl
      · obtain ⟨e0, e1, e2, e3, e4, e5⟩ := keep6 (hJ.bel.block _ zq4) HS4.out
        have hbl : w4.heap.size < W.heap.size := Nat.lt_of_lt_of_le zq4 hJ.bel.size
        refine wpOp_run rfl (by rfl) (fun K hK => ?_)
        simp only [withs, Act.put, List.setIfInBounds_toArray, List.set_cons_succ, List.set_cons_zero]
        go_simp
        exact hK _ _ ⟨[.agg #[.int .i64 3, .string bNil, .int .i64 0, .string sb, .slice Ab nb cb, .slice A5 n5 c5], x41, x42, x43, x44, x45, x39, x46, x47, x10, x11], (by simp only [withs, Act.put, List.setIfInBounds_toArray, List.set_cons_succ, List.set_cons_zero]), (hJ.st0).mk_⟩
      · refine wpOp_run rfl (by rfl) (fun K hK => ?_)
        simp only [withs, Act.put, List.setIfInBounds_toArray, List.set_cons_succ, List.set_cons_zero]
        go_simp
        exact hK _ _ ⟨[x40, .string nm, x42, x43, x44, x45, x39, x46, x47, x10, x11], (by simp only [withs, Act.put, List.setIfInBounds_toArray, List.set_cons_succ, List.set_cons_zero]), (hJ.st1).mk_⟩
      · refine wpOp_run rfl (by rfl) (fun K hK => ?_)
        simp only [withs, Act.put, List.setIfInBounds_toArray, List.set_cons_succ, List.set_cons_zero]
        go_simp
        exact hK _ _ ⟨[x40, x41, .pointer (some ⟨w4.heap.size, 3, none⟩), x43, x44, x45, x39, x46, x47, x10, x11], (by simp only [withs, Act.put, List.setIfInBounds_toArray, List.set_cons_succ, List.set_cons_zero]), (hJ.st2).mk_⟩
      · obtain rfl := hJ.h42 (hp 2 (of_decide_eq_true (by kernel_rfl)))
        obtain ⟨e0, e1, e2, e3, e4, e5⟩ := keep6 (hJ.bel.block _ zq4) HS4.out
        have hbl : w4.heap.size < W.heap.size := Nat.lt_of_lt_of_le zq4 hJ.bel.size
        refine wpOp_run rfl (by rfl) (fun K hK => ?_)
        simp only [withs, Act.put, List.setIfInBounds_toArray, List.set_cons_succ, List.set_cons_zero]
        go_simp
        exact hK _ _ ⟨[x40, x41, .pointer (some ⟨w4.heap.size, 3, none⟩), .agg #[.string sb, .slice Ab nb cb], x44, x45, x39, x46, x47, x10, x11], (by simp only [withs, Act.put, List.setIfInBounds_toArray, List.set_cons_succ, List.set_cons_zero]), (hJ.st3).mk_⟩
      · obtain rfl := hJ.h41 (hp 1 (of_decide_eq_true (by kernel_rfl)))
        obtain rfl := hJ.h43 (hp 3 (of_decide_eq_true (by kernel_rfl)))
        refine wpOp_run rfl (by rfl) (fun K hK => ?_)
        simp only [withs, Act.put, List.setIfInBounds_toArray, List.set_cons_succ, List.set_cons_zero]
        refine step_wp (by rfl) ?_
        refine step_call (by rfl) 22 _ (by go_simp) (HCON.out W hJ.bel).out ?_
        rintro e w5' ⟨rfl, h5, hw5⟩
        refine ⟨_, rfl, ?_⟩
        exact hK _ _ ⟨[x40, .string nm, x42, .agg #[.string sb, .slice Ab nb cb], .agg #[.int .i64 1, .string nm, .int .i64 0, .string sb, .slice Ab nb cb, .slice none 0 0], x45, x39, x46, x47, x10, x11], (by show Act.put _ (some 44) _ = _; simp only [withs, Act.put, List.setIfInBounds_toArray, List.set_cons_succ, List.set_cons_zero]), (hJ.st4 hw5).mk_⟩
      · obtain rfl := hJ.h40 (hp 0 (of_decide_eq_true (by kernel_rfl)))
        obtain rfl := hJ.h44 (hp 4 (of_decide_eq_true (by kernel_rfl)))
        refine wpOp_run rfl (by rfl) (fun K hK => ?_)
        simp only [withs, Act.put, List.setIfInBounds_toArray, List.set_cons_succ, List.set_cons_zero]
        refine step_wp (by rfl) ?_
        refine step_call (by rfl) 21 _ (by go_simp) (HAPP.out W hJ.bel).out ?_
        rintro e w6' hr
        have hw6 := hr.2.2.2
        obtain ⟨kS, nmS, ixS, sS, AS, nS, cS, BS, mS, dS, c', i', rfl, hres⟩ := HUN.out.apply hr
        refine ⟨_, rfl, ?_⟩
        exact hK _ _ ⟨[.agg #[.int .i64 3, .string bNil, .int .i64 0, .string sb, .slice Ab nb cb, .slice A5 n5 c5], x41, x42, x43, .agg #[.int .i64 1, .string nm, .int .i64 0, .string sb, .slice Ab nb cb, .slice none 0 0], (.tuple #[.agg #[.int .i64 kS, .string nmS, .int .i64 ixS, .string sS, .slice AS nS cS, .slice BS mS dS], .agg #[.int .i64 c', .int .i64 i']]), x39, x46, x47, x10, x11], (by show Act.put _ (some 45) _ = _; simp only [withs, Act.put, List.setIfInBounds_toArray, List.set_cons_succ, List.set_cons_zero]), (hJ.st5 hn hw6 hres).mk_⟩
      · have h5 := hp 5 (of_decide_eq_true (by kernel_rfl))
        obtain rfl := (hJ.h45 h5).1
        refine wpOp_run rfl (by rfl) (fun K hK => ?_)
        simp only [withs, Act.put, List.setIfInBounds_toArray, List.set_cons_succ, List.set_cons_zero]
        go_simp
        exact hK _ _ ⟨[x40, x41, x42, x43, x44, .tuple #[.agg #[.int .i64 kT, .string nmT, .int .i64 ixT, .string sT, .slice AT nT cT, .slice BT mT dT], .agg #[.int .i64 c, .int .i64 i]], .tuple #[.agg #[.int .i64 kT, .string nmT, .int .i64 ixT, .string sT, .slice AT nT cT, .slice BT mT dT], .agg #[.int .i64 c, .int .i64 i]], x46, x47, x10, x11], (by simp only [withs, Act.put, List.setIfInBounds_toArray, List.set_cons_succ, List.set_cons_zero]), (hJ.st6 h5).mk_⟩
      · have h6 := hp 6 (of_decide_eq_true (by kernel_rfl))
        obtain rfl := hJ.h39 h6
        refine wpOp_run rfl (by rfl) (fun K hK => ?_)
        simp only [withs, Act.put, List.setIfInBounds_toArray, List.set_cons_succ, List.set_cons_zero]
        go_simp
        exact hK _ _ ⟨[x40, x41, x42, x43, x44, x45, .tuple #[.agg #[.int .i64 kT, .string nmT, .int .i64 ixT, .string sT, .slice AT nT cT, .slice BT mT dT], .agg #[.int .i64 c, .int .i64 i]], .agg #[.int .i64 kT, .string nmT, .int .i64 ixT, .string sT, .slice AT nT cT, .slice BT mT dT], x47, x10, x11], (by simp only [withs, Act.put, List.setIfInBounds_toArray, List.set_cons_succ, List.set_cons_zero]), (hJ.st7 (hJ.five6 h6)).mk_⟩
      · have h6 := hp 6 (of_decide_eq_true (by kernel_rfl))
        obtain rfl := hJ.h39 h6
        refine wpOp_run rfl (by rfl) (fun K hK => ?_)
        simp only [withs, Act.put, List.setIfInBounds_toArray, List.set_cons_succ, List.set_cons_zero]
        go_simp
        exact hK _ _ ⟨[x40, x41, x42, x43, x44, x45, .tuple #[.agg #[.int .i64 kT, .string nmT, .int .i64 ixT, .string sT, .slice AT nT cT, .slice BT mT dT], .agg #[.int .i64 c, .int .i64 i]], x46, .agg #[.int .i64 c, .int .i64 i], x10, x11], (by simp only [withs, Act.put, List.setIfInBounds_toArray, List.set_cons_succ, List.set_cons_zero]), (hJ.st8 (hJ.five6 h6)).mk_⟩
      · refine wpOp_run rfl (by rfl) (fun K hK => ?_)
        simp only [withs, Act.put, List.setIfInBounds_toArray, List.set_cons_succ, List.set_cons_zero]
        go_simp
        exact hK _ _ ⟨[x40, x41, x42, x43, x44, x45, x39, x46, x47, .pointer (some ⟨W.heap.size, 0, none⟩), x11], (by simp only [withs, Act.put, List.setIfInBounds_toArray, List.set_cons_succ, List.set_cons_zero]), (hJ.st9 hn).mk_⟩
      · refine wpOp_run rfl (by rfl) (fun K hK => ?_)
        simp only [withs, Act.put, List.setIfInBounds_toArray, List.set_cons_succ, List.set_cons_zero]
        go_simp
        exact hK _ _ ⟨[x40, x41, x42, x43, x44, x45, x39, x46, x47, x10, .pointer (some ⟨W.heap.size, 0, none⟩)], (by simp only [withs, Act.put, List.setIfInBounds_toArray, List.set_cons_succ, List.set_cons_zero]), (hJ.st10 hn).mk_⟩
      · have h7 := hp 7 (of_decide_eq_true (by kernel_rfl))
        have h9 := hp 9 (of_decide_eq_true (by kernel_rfl))
        obtain rfl := hJ.h46 h7
        obtain ⟨rfl, -, u0, u1, u2, u3, u4, u5, r⟩ := hJ.h10 h9
        have r_0 := cv0 r
        have r_1 := cv1 r
        have r_2 := cv2 r
        have r_3 := cv3 r
        have r_4 := cv4 r
        have r_5 := cv5 r
        have r_f0 := free_heap r 0
        have r_f1 := free_heap r 1
        have r_f2 := free_heap r 2
        have r_f3 := free_heap r 3
        have r_f4 := free_heap r 4
        have r_f5 := free_heap r 5
        have r_l := lt_heap r
        clear r
        refine wpOp_run rfl (by rfl) (fun K hK => ?_)
        simp only [withs, Act.put, List.setIfInBounds_toArray, List.set_cons_succ, List.set_cons_zero]
        go_simp
        exact hK _ _ ⟨[x40, x41, x42, x43, x44, x45, x39, .agg #[.int .i64 kT, .string nmT, .int .i64 ixT, .string sT, .slice AT nT cT, .slice BT mT dT], x47, .pointer (some ⟨ob, 0, none⟩), x11], (by simp only [withs, Act.put, List.setIfInBounds_toArray, List.set_cons_succ, List.set_cons_zero]), (hJ.st11 (hJ.five7 h7) h9).mk_⟩
      · have h7 := hp 8 (of_decide_eq_true (by kernel_rfl))
        have h9 := hp 10 (of_decide_eq_true (by kernel_rfl))
        obtain rfl := hJ.h47 h7
        obtain ⟨rfl, -, u0, u1, r⟩ := hJ.h11 h9
        have r_0 := cv0 r
        have r_1 := cv1 r
        have r_f0 := free_heap r 0
        have r_f1 := free_heap r 1
        have r_l := lt_heap r
        clear r
        refine wpOp_run rfl (by rfl) (fun K hK => ?_)
        simp only [withs, Act.put, List.setIfInBounds_toArray, List.set_cons_succ, List.set_cons_zero]
        go_simp
        exact hK _ _ ⟨[x40, x41, x42, x43, x44, x45, x39, x46, .agg #[.int .i64 c, .int .i64 i], x10, .pointer (some ⟨oc, 0, none⟩)], (by simp only [withs, Act.put, List.setIfInBounds_toArray, List.set_cons_succ, List.set_cons_zero]), (hJ.st12 (hJ.five8 h7) h9).mk_⟩
  case rest =>
    rename World => wx
    obtain ⟨ob, oc, kT, nmT, ixT, sT, AT, nT, cT, BT, mT, dT, c, i, w5, w6, rfl, rfl, h10, h11, hres, hk6, hbx⟩ := hcut
    have zx := hbx.size
    have hBy := HBQ.out.trans (hbx.mono (by omega))
    have hB4x : Below w4.heap.size w4 wx := HBV.out.trans (hbx.mono (by omega))
    have p0 := (hB4x.block _ (lt_heap P0.out)).trans P0.out
    have c0' := (hBy.cell (p := ⟨0, 0, none⟩) hg).trans G0.out
    have c1' := (hBy.cell (p := ⟨0, 1, none⟩) hg).trans G1.out
    have l5 : 0 < wx.heap.size := by omega
    clear q8_0 q8_1 q8_2 q8_3 q8_4 q8_5 q8_l
    rcases hres with rfl | ⟨rfl, rfl, hn, hd, hu⟩
    · have HBX := Lib.hid hbx
      have HBY := Lib.hid hBy
      have HB4X := Lib.hid hB4x
      have P0 := Lib.hid p0
      have HK6 := Lib.hid hk6
      clear hbx hBy hB4x p0 hk6
      have h10_0 := cv0 h10
      have h10_1 := cv1 h10
      have h10_2 := cv2 h10
      have h10_3 := cv3 h10
      have h10_4 := cv4 h10
      have h10_5 := cv5 h10
      have h10_l := lt_heap h10
      have H10 := Lib.hid h10
      clear h10
      have h11_0 := cv0 h11
      have h11_1 := cv1 h11
      have h11_l := lt_heap h11
      have H11 := Lib.hid h11
      clear h11
      go_wp2_with fail
      go_returns
      exact ⟨rfl, HBY.out⟩
    have hfa : (tmFault (Tv.app (bindTerm nm v) (.con nm a)).tm).1 = 0 := by rw [tmFault_ok HUN.out.ok hn hd HUN.out.ty]
    have hst := Lib.hid (stepOf_any (Tv.app (bindTerm nm v) (.con nm a)).tm [.int .i64 kT, .string nmT, .int .i64 ixT, .string sT, .slice AT nT cT, .slice BT mT dT] wx (fun k => w5.heap.size ≤ k ∧ k < w6.heap.size) (tmRep.keep hu (fun k hk => (hk6 k hk.1 hk.2).2) (fun _ h => h)) (fun k hk => (hk6 k hk.1 hk.2).1))
    clear hu hn hd
    have HBX := Lib.hid hbx
    have HBY := Lib.hid hBy
    have HB4X := Lib.hid hB4x
    have P0 := Lib.hid p0
    have HK6 := Lib.hid hk6
    have HST := Lib.hid hst
    have HFA := Lib.hid hfa
    clear hbx hBy hB4x p0 hk6 hst hfa
    have h10_0 := cv0 h10
    have h10_1 := cv1 h10
    have h10_2 := cv2 h10
    have h10_3 := cv3 h10
    have h10_4 := cv4 h10
    have h10_5 := cv5 h10
    have h10_l := lt_heap h10
    have H10 := Lib.hid h10
    clear h10
    have h11_0 := cv0 h11
    have h11_1 := cv1 h11
    have h11_l := lt_heap h11
    have H11 := Lib.hid h11
    clear h11
    go_wp2_with fail
    (with_reducible refine HST.out.out.mono ?_)
    rintro e w7 hr
    have hw7 := hr.2.2
    have z7 := hw7.size
    have hB7 := HBY.out.trans (hw7.mono (by omega))
    have p0 := (hw7.block _ (by have := lt_heap P0.out; omega)).trans P0.out
    have c0' := (hB7.cell (p := ⟨0, 0, none⟩) hg).trans G0.out
    have c1' := (hB7.cell (p := ⟨0, 1, none⟩) hg).trans G1.out
    have l7 : 0 < w7.heap.size := by omega
    have l7b : 0 < w7.heap.size + 1 := by omega
    have l7c : w.heap.size < w7.heap.size := lt_heap p0
    have l7d : w.heap.size < w7.heap.size + 1 := by omega
    rcases hr.2.1 _ rfl HFA.out with ⟨h1, _⟩ | ⟨_, ds, rfl, hv⟩
    · rw [HUN.out.st] at h1; simp at h1; omega
    rw [HUN.out.st] at hv ⊢
    simp only [Option.getD_some, Option.isSome_some] at hv ⊢
    obtain ⟨s9, A9, n9, c9, B9, m9, d9, rfl, _, _⟩ := Tm.shape hv
    have heq := fun (o p : Obj) => eqTm_any _ v.tm v.tm [.int .i64 v.tm.lab.kind, .string v.tm.lab.nm, .int .i64 v.tm.lab.ix, .string s9, .slice A9 n9 c9, .slice B9 m9 d9] [.int .i64 v.tm.lab.kind, .string v.tm.lab.nm, .int .i64 v.tm.lab.ix, .string s0, .slice A0 n0 c0, .slice B0 m0 d0] ((w7.alloc o).alloc p) (Lo w7) (Nat.le_refl _)
      (tmRep.keep hv (fun k hk => heap_old (by have := hk.2; simp; omega) (heap_old hk.2 rfl)) (fun k hk => hk.2))
      (tmRep.keep HT.out (fun k hk => heap_old (by have := HS.out k hk; simp; omega) (heap_old (by have := HS.out k hk; omega) (hB7.block k (HS.out k hk)))) (fun k hk => by have := HS.out k hk; exact (show k < w7.heap.size by omega))) (fun k hk => by have h' : k < w7.heap.size := hk; simp; omega)
    rw [tmBeq_self] at heq
    clear hr hv h10_0 h10_1 h10_2 h10_3 h10_4 h10_5 h10_l h11_0 h11_1 h11_l
    have HW7 := Lib.hid hw7
    have HB7 := Lib.hid hB7
    have HEQ := Lib.hid heq
    clear hw7 hB7 heq
    have p0_0 := cv0 p0
    have p0_1 := cv1 p0
    have p0_2 := cv2 p0
    have p0_3 := cv3 p0
    have p0_4 := cv4 p0
    have p0_5 := cv5 p0
    have p0_l := lt_heap p0
    have P0 := Lib.hid p0
    clear p0
    go_wp2_with fail
    (with_reducible refine (HEQ.out _ _).mono ?_)
    rintro e w8 ⟨rfl, hw8⟩
    have HW8 := Lib.hid hw8
    clear hw8
    go_wp2_with fail
    go_returns
    exact ⟨rfl, ((HB7.out.alloc (by omega) _).alloc (by simp; omega) _).trans (HW8.out.mono (by simp; omega))⟩

end Go.Proofs.YthflahcnkhmpaabDoor
