/-
  The reference's replace (copies of a named term in a variable's place): the walk.
-/
import Derived.Test.YthflahcnkhmpaabDoorProg
import Derived.Test.YthflahcnkhmpaabDoorNames
import Derived.Deep.DeepCutAuto
import Derived.Test.YthflahcnkhmpaabDoorFrame
import Derived.Test.YthflahcnkhmpaabDoorRowSet
import Derived.Test.YthflahcnkhmpaabDoorSteps
namespace Go.Proofs.YthflahcnkhmpaabDoor
open Go Go.RowKit
set_option linter.unusedSimpArgs false
set_option linter.unusedVariables false

theorem Nm.repl_le (id : Nat) (y : Nm) : ∀ (v : Nm) (n : Nat), (v.repl id y n).2 ≤ n + v.nodes * y.nodes ∧ n ≤ (v.repl id y n).2
  | .con _ _, n => ⟨by simp [Nm.repl], Nat.le_refl _⟩
  | .var i, n => by
    simp only [Nm.repl, Nm.nodes]
    split
    · have := y.fresh_le [] n; omega
    · exact ⟨by omega, Nat.le_refl _⟩
  | .abs i s b, n => by
    have := Nm.repl_le id y b n
    simp only [Nm.repl, Nm.nodes, Nat.add_mul]; omega
  | .app f x, n => by
    have h1 := Nm.repl_le id y f n
    have h2 := Nm.repl_le id y x (f.repl id y n).2
    simp only [Nm.repl, Nm.nodes, Nat.add_mul]; omega
theorem repl_thr_le (id : Nat) (y : Nm) : ∀ (l : List Nm) (s : Nat), (thr (fun x k => x.repl id y k) l s).2 ≤ s + (l.map Nm.nodes).sum * y.nodes ∧ s ≤ (thr (fun x k => x.repl id y k) l s).2
  | [], s => ⟨by simp [thr], Nat.le_refl _⟩
  | a :: l, s => by
    have h1 := Nm.repl_le id y a s
    have h2 := repl_thr_le id y l (a.repl id y s).2
    simp only [thr, List.map_cons, List.sum_cons, Nat.add_mul]; omega
/-- What replace leaves. -/
def ReplAt (v : Nm) (id : Nat) (y : Nm) (n bn : Nat) (w : World) (S : Nat → Prop) (z : Ending) (w' : World) : Prop :=
  ∃ es : List Value, z = .returned (.agg es.toArray) ∧ nmRep.R w' (Ex S w w') (v.repl id y n).1.tr es ∧ w'.heap[bn]? = some (.cells #[.int .i64 ((v.repl id y n).2 : Nat)] 3 (0, 0)) ∧ Mods (· = bn) w.heap.size w w'

set_option maxRecDepth 100000 in
set_option maxHeartbeats 4000000 in
theorem repl_var (id : Nat) (y : Nm) (n : Nat) (cs dy : List Value) (w : World) (S : Nat → Prop) (bn : Nat) (hnb : n + y.nodes ≤ 1000000000000) (hyn : y.nodes ≤ 1000000) (h : nmRep.R w S (Nm.var id).tr cs) (hy : nmRep.R w S y.tr dy) (hS : ∀ b, S b → b < w.heap.size ∧ b ≠ bn)
    (hbn : w.heap[bn]? = some (.cells #[.int .i64 n] 3 (0, 0))) :
    Calls Tryd.prog 67 #[.agg cs.toArray, .int .i64 (id : Nat), .agg dy.toArray, .pointer (some ⟨bn, 0, none⟩)] w (ReplAt (.var id) id y n bn w S) := by
  obtain ⟨u0, u1, vs, rfl, hnm, hty, hl⟩ := Nt.open_ (a := ⟨2, (id : Int), bNil, noTy⟩) (l := []) h
  obtain ⟨sa, Aa, na, ca, rfl, rfl⟩ := hty.shape
  obtain ⟨A, m, cp, rfl, hln, hm, _⟩ := hl
  simp only [List.length_nil] at hln
  subst hln
  obtain ⟨sy, Ay, ny, cy, By, my, dy', rfl, _, _⟩ := Nt.shape hy
  have hbl := lt_heap hbn
  have hq : ((id : Int) == (id : Int)) = true := by simp
  have hk3 : ∀ (o p q : Obj) (k : Nat), k < w.heap.size → (((w.alloc o).alloc p).alloc q).heap[k]? = w.heap[k]? := fun o p q k hk => heap_old (by simp; omega) (heap_old (by simp; omega) (heap_old hk rfl))
  have hfr := fun (o p q : Obj) => Lib.hid (fresh_any y.nodes y [] n [.int .i64 y.tr.lab.kind, .int .i64 y.tr.lab.id, .string y.tr.lab.nm, .string sy, .slice Ay ny cy, .slice By my dy'] (.slice none 0 0) (.slice none 0 0) (((w.alloc o).alloc p).alloc q) S (fun _ => False) bn (Nat.le_refl _) hnb (by simpa using hyn) (nmRep.keep hy (fun k hk => hk3 o p q k (hS k hk).1) (fun _ h => h)) Rep.Sl.nil Rep.Sl.nil (fun k hk => ⟨by have := (hS k hk).1; simp; omega, (hS k hk).2⟩) (fun _ h => h.elim) ((hk3 o p q bn hbl).trans hbn))
  clear h hm hnm hty hy
  have HS := Lib.hid hS
  have HBN := Lib.hid hbn
  have HFR := Lib.hid hfr
  have HK3 := Lib.hid hk3
  clear hS hbn hfr hk3
  go_enter Tryd.func67, Tryd.ntmps67
  go_wp2_with fail
  (with_reducible refine (HFR.out _ _ _).out.mono ?_)
  rintro z w2 ⟨es, rfl, hu, hb2, hm2⟩
  obtain ⟨s2, A2, n2, c2, B2, m2, d2, rfl, _, _⟩ := Nt.shape hu
  have z2 : w.heap.size + 3 ≤ w2.heap.size := by have := hm2.size; simpa using this
  have r2 := (hm2.block (w.heap.size + 1 + 1) (by simp) (by omega)).trans (heap_at (by simp))
  have hmw : Mods (· = bn) w.heap.size w w2 := (Mods.below (by go_grown : Below w.heap.size w (((w.alloc _).alloc _).alloc _))).trans (hm2.mono (by simp; omega))
  have HU := Lib.hid hu
  have HB2 := Lib.hid hb2
  have HM2 := Lib.hid hm2
  have HMW := Lib.hid hmw
  clear hu hb2 hm2 hmw
  have r2_0 := cv0 r2
  have r2_1 := cv1 r2
  have r2_2 := cv2 r2
  have r2_3 := cv3 r2
  have r2_4 := cv4 r2
  have r2_5 := cv5 r2
  have r2_f0 := free_heap r2 0
  have r2_f1 := free_heap r2 1
  have r2_f2 := free_heap r2 2
  have r2_f3 := free_heap r2 3
  have r2_f4 := free_heap r2 4
  have r2_f5 := free_heap r2 5
  have r2_l := lt_heap r2
  have R2 := Lib.hid r2
  clear r2
  go_wp2_with fail
  refine bodyPost_ret (v := .agg #[.int .i64 (y.fresh [] n).1.tr.lab.kind, .int .i64 (y.fresh [] n).1.tr.lab.id, .string (y.fresh [] n).1.tr.lab.nm, .string s2, .slice A2 n2 c2, .slice B2 m2 d2]) (by simp [results, Tryd.results67, go_sem, r2_0, r2_1, r2_2, r2_3, r2_4, r2_5, r2_l]) rfl ?_
  unfold ReplAt
  simp only [Nm.repl, if_true]
  refine ⟨[.int .i64 (y.fresh [] n).1.tr.lab.kind, .int .i64 (y.fresh [] n).1.tr.lab.id, .string (y.fresh [] n).1.tr.lab.nm, .string s2, .slice A2 n2 c2, .slice B2 m2 d2], rfl, ?_, far6 (by omega) HB2.out, mods6 HMW.out (by omega)⟩
  refine nmRep.keep HU.out (fun k hk => far6 ?_ rfl) (fun k hk => ?_)
  · rcases hk with hk | hk
    · have := (HS.out k hk).1; omega
    · have := hk.1; simp at this; omega
  · exact hk.imp_right (fun h => ⟨by have := h.1; simp at this; omega, lt6 h.2⟩)

set_option maxRecDepth 100000 in
set_option maxHeartbeats 4000000 in
theorem repl_any : ∀ (N : Nat) (v : Nm) (id : Nat) (y : Nm) (n : Nat) (cs dy : List Value) (w : World) (S : Nat → Prop) (bn : Nat), v.nodes ≤ N → n + v.nodes * y.nodes ≤ 1000000000000 → y.nodes ≤ 1000000 → nmRep.R w S v.tr cs → nmRep.R w S y.tr dy → (∀ b, S b → b < w.heap.size ∧ b ≠ bn) →
    w.heap[bn]? = some (.cells #[.int .i64 n] 3 (0, 0)) →
    Calls Tryd.prog 67 #[.agg cs.toArray, .int .i64 (id : Nat), .agg dy.toArray, .pointer (some ⟨bn, 0, none⟩)] w (ReplAt v id y n bn w S) := by
  intro N
  induction N with
  | zero => intro v; have := v.nodes_pos; intros; omega
  | succ N ih =>
  intro v id y n cs dy w S bn hN hnb hyn h hy hS hbn
  have IH := Lib.hid ih
  clear ih
  have hnp := v.nodes_pos
  by_cases hv : v = .var id
  · subst hv
    exact repl_var id y n cs dy w S bn (by simpa [Nm.nodes] using hnb) hyn h hy hS hbn
  have hbl := lt_heap hbn
  have hbl1 : bn < w.heap.size + 1 := by omega
  have hbl2 : bn < w.heap.size + 1 + 1 := by omega
  have hbl3 : bn < w.heap.size + 1 + 1 + 1 := by omega
  have hof := Nm.repl_eq hv y n
  unfold ReplAt
  rw [hof.1, hof.2]
  clear hof
  obtain ⟨sy, Ay, ny, cy, By, my, dy, rfl, _, _⟩ := Nt.shape hy
  rw [Nm.tr_eq] at h
  obtain ⟨u0, u1, vs, rfl, hnm, hty, hl⟩ := Nt.open_ h
  obtain ⟨sa, Aa, na, ca, rfl, rfl⟩ := hty.shape
  have HL := Lib.hid hl
  have hkl := v.kids_len
  have hkn := v.kids_nodes
  have hks := v.nodes_sum
  have hno : (v.lab.kind == 2) = false ∨ ((v.lab.kind == 2) = true ∧ (v.lab.id == (id : Int)) = false) := by
    cases v <;> first | exact Or.inl rfl | skip
    rename_i i
    refine Or.inr ⟨rfl, ?_⟩
    rw [beq_eq_false_iff_ne]
    intro e
    exact hv (by rw [show i = id from Int.ofNat.inj e])
  obtain ⟨A, m, c, rfl, hln, hm, _⟩ := hl
  rw [List.length_map] at hln
  subst hln
  have HNM := Lib.hid hnm
  have HV := Lib.hid hv
  generalize v.lab = lab at *
  obtain ⟨kd, idn, nx, ty⟩ := lab
  simp only at hty hno
  clear h hnm hm hv
  obtain ⟨k0, hk0, kz0, kz1, kz2⟩ := info_parts infoNamed
  have HS := Lib.hid hS
  have HN := Lib.hid hN
  have HTY := Lib.hid hty
  have HBN := Lib.hid hbn
  have HKN := Lib.hid hkn
  have HY := Lib.hid hy
  clear hS hN hty hbn hkn hy
  go_enter Tryd.func67, Tryd.ntmps67
  go_upto_region 1 with (fail)
  go_cut [19] (fun s19 wx => s19 = .bool false ∧ wx = ((w.alloc (.cells #[.int .i64 kd, .int .i64 idn, .string nx, .string sa, .slice Aa na ca, .slice A v.kids.length c] 65)).alloc (.cells #[.int .i64 y.tr.lab.kind, .int .i64 y.tr.lab.id, .string y.tr.lab.nm, .string sy, .slice Ay ny cy, .slice By my dy] 65)).alloc (.cells #[.int .i64 0, .int .i64 0, .string ⟨#[]⟩, .string ⟨#[]⟩, .slice none 0 0, .slice none 0 0] 65))
  case first =>
    rcases hno with h2 | ⟨h2, h3⟩
    · go_wp2_with fail
      go_meet
      exact ⟨rfl, rfl⟩
    · go_wp2_with fail
      go_meet
      exact ⟨rfl, rfl⟩
  case rest =>
  obtain ⟨rfl, rfl⟩ := hcut
  clear hno
  go_wp2_with fail
  go_loopg [28] v.kids.length (fun k vi wr => ∃ (j : Nat) (q : Value), j + k = v.kids.length ∧ vi = .int .i64 j ∧
    (wr.heap[w.heap.size]? = some (.cells #[.int .i64 kd, .int .i64 idn, .string nx, .string sa, .slice Aa na ca, .slice A v.kids.length c] 65 (0, 0)) ∧ wr.heap[w.heap.size + 1]? = some (.cells #[.int .i64 y.tr.lab.kind, .int .i64 y.tr.lab.id, .string y.tr.lab.nm, .string sy, .slice Ay ny cy, .slice By my dy] 65 (0, 0)) ∧
    wr.heap[w.heap.size + 1 + 1]? = some (.cells #[.int .i64 0, .int .i64 0, .string ⟨#[]⟩, .string ⟨#[]⟩, .slice none 0 0, .slice none 0 0] 65 (0, 0)) ∧
    wr.heap[w.heap.size + 1 + 1 + 1]? = some (.cells #[.int .i64 kd, .int .i64 idn, .string nx, .string sa, .slice Aa na ca, q] 65 (0, 0))) ∧
    nmRep.Own 65 (w.heap.size + 4) wr (New S (w.heap.size + 4) wr) q ((thr (fun x k => x.repl id y k) (v.kids.take j) n).1.map Nm.tr) ∧
    wr.heap[bn]? = some (.cells #[.int .i64 ((thr (fun x k => x.repl id y k) (v.kids.take j) n).2 : Nat)] 3 (0, 0)) ∧
    Mods (· = bn) w.heap.size w wr ∧ w.heap.size + 4 ≤ wr.heap.size)
  case atStart =>
    have hgr : Below w.heap.size w ((((w.alloc (.cells #[.int .i64 kd, .int .i64 idn, .string nx, .string sa, .slice Aa na ca, .slice A v.kids.length c] 65)).alloc (.cells #[.int .i64 y.tr.lab.kind, .int .i64 y.tr.lab.id, .string y.tr.lab.nm, .string sy, .slice Ay ny cy, .slice By my dy] 65)).alloc (.cells #[.int .i64 0, .int .i64 0, .string ⟨#[]⟩, .string ⟨#[]⟩, .slice none 0 0, .slice none 0 0] 65)).alloc (.cells #[.int .i64 kd, .int .i64 idn, .string nx, .string sa, .slice Aa na ca, .slice none 0 0] 65)) := by go_grown
    exact ⟨0, .slice none 0 0, by omega, rfl, ⟨heap_old (by simp <;> omega) (heap_old (by simp <;> omega) (heap_old (by simp) (heap_at rfl))), heap_old (by simp <;> omega) (heap_old (by simp) (heap_at (by simp))), heap_old (by simp) (heap_at (by simp)), heap_at (by simp)⟩, by simpa [thr] using Rep.Own.nil, by simpa [thr] using (hgr.block bn hbl).trans HBN.out, Mods.below hgr, by simp⟩
  case round =>
    obtain ⟨j, q, hj, rfl, ⟨hx0, hxb, hx1, hx2⟩, hown, hbr, hmr, zr⟩ := hrel
    obtain ⟨Aq, cq, hq⟩ := hown.len
    have hlen : ((thr (fun x k => x.repl id y k) (v.kids.take j) n).1.map Nm.tr).length = j := by rw [List.length_map, thr_len]; simp; omega
    rw [hlen] at hq
    subst hq
    have hblk : ∀ k, (Value.slice Aq j cq).ownBlock = some k → (w.heap.size + 4) ≤ k ∧ k < wr.heap.size := hown.block
    have hkS : ∀ b, S b → wr.heap[b]? = w.heap[b]? := fun b hb => hmr.block b (HS.out b hb).1 (HS.out b hb).2
    have HOWN := Lib.hid hown
    have HBR := Lib.hid hbr
    have HMR := Lib.hid hmr
    have HLEN := Lib.hid hlen
    have HBLK := Lib.hid hblk
    have HKS := Lib.hid hkS
    clear hown hbr hmr hlen hblk hkS
    have hx0_0 := cv0 hx0
    have hx0_1 := cv1 hx0
    have hx0_2 := cv2 hx0
    have hx0_3 := cv3 hx0
    have hx0_4 := cv4 hx0
    have hx0_5 := cv5 hx0
    have hx0_l := lt_heap hx0
    have HX0 := Lib.hid hx0
    clear hx0
    have hxb_0 := cv0 hxb
    have hxb_1 := cv1 hxb
    have hxb_2 := cv2 hxb
    have hxb_3 := cv3 hxb
    have hxb_4 := cv4 hxb
    have hxb_5 := cv5 hxb
    have hxb_l := lt_heap hxb
    have HXB := Lib.hid hxb
    clear hxb
    have hx1_0 := cv0 hx1
    have hx1_1 := cv1 hx1
    have hx1_2 := cv2 hx1
    have hx1_3 := cv3 hx1
    have hx1_4 := cv4 hx1
    have hx1_5 := cv5 hx1
    have hx1_f0 := free_heap hx1 0
    have hx1_f1 := free_heap hx1 1
    have hx1_f2 := free_heap hx1 2
    have hx1_f3 := free_heap hx1 3
    have hx1_f4 := free_heap hx1 4
    have hx1_f5 := free_heap hx1 5
    have hx1_l := lt_heap hx1
    have HX1 := Lib.hid hx1
    clear hx1
    have hx2_0 := cv0 hx2
    have hx2_1 := cv1 hx2
    have hx2_2 := cv2 hx2
    have hx2_3 := cv3 hx2
    have hx2_4 := cv4 hx2
    have hx2_5 := cv5 hx2
    have hx2_f0 := free_heap hx2 0
    have hx2_f1 := free_heap hx2 1
    have hx2_f2 := free_heap hx2 2
    have hx2_f3 := free_heap hx2 3
    have hx2_f4 := free_heap hx2 4
    have hx2_f5 := free_heap hx2 5
    have hx2_l := lt_heap hx2
    have HX2 := Lib.hid hx2
    clear hx2
    by_cases hjl : j < v.kids.length
    · obtain ⟨b, o, kc, rfl, hSb, hkr, hkc⟩ := Rep.Sl.at_ HL.out (k := j) (a := v.kids[j].tr) (by simp [hjl])
      obtain ⟨s1, A1, n1, c1, B1, m1, d1, rfl, _, _⟩ := Nt.shape hkr
      have hk := HKS.out b hSb
      have e0 : wr.cell? ⟨b, o + j * 6, none⟩ = _ := (cell_keep hk _).trans (hkc 0 _ rfl)
      have e1 : wr.cell? ⟨b, o + j * 6 + 1, none⟩ = _ := (cell_keep hk _).trans (hkc 1 _ rfl)
      have e2 : wr.cell? ⟨b, o + j * 6 + 2, none⟩ = _ := (cell_keep hk _).trans (hkc 2 _ rfl)
      have e3 : wr.cell? ⟨b, o + j * 6 + 3, none⟩ = _ := (cell_keep hk _).trans (hkc 3 _ rfl)
      have e4 : wr.cell? ⟨b, o + j * 6 + 4, none⟩ = _ := (cell_keep hk _).trans (hkc 4 _ rfl)
      have e5 : wr.cell? ⟨b, o + j * 6 + 5, none⟩ = _ := (cell_keep hk _).trans (hkc 5 _ rfl)
      have hSbb := (HS.out b hSb).1
      have zb : b < wr.heap.size := by omega
      have q0 : (0 : Int) ≤ (j : Int) := by omega
      have q1 : (j : Int) < (v.kids.length : Int) := by omega
      have hnj := HKN.out j hjl
      have hst := sum_take_le Nm.nodes v.kids j hjl
      have hot := repl_thr_le id y (v.kids.take j) n
      have hth := thr_take (fun x k => x.repl id y k) hjl n
      generalize hTj : thr (fun x k => x.repl id y k) (v.kids.take j) n = Tj at *
      have hbd : Tj.2 + v.kids[j].nodes * y.nodes ≤ 1000000000000 := by
        have h1 := Nat.mul_le_mul_right y.nodes hst
        rw [Nat.add_mul] at h1
        have h2 : (v.kids.map Nm.nodes).sum * y.nodes ≤ v.nodes * y.nodes := Nat.mul_le_mul_right _ (by omega)
        omega
      have hih := Lib.hid (IH.out v.kids[j] id y Tj.2 [.int .i64 v.kids[j].tr.lab.kind, .int .i64 v.kids[j].tr.lab.id, .string v.kids[j].tr.lab.nm, .string s1, .slice A1 n1 c1, .slice B1 m1 d1] [.int .i64 y.tr.lab.kind, .int .i64 y.tr.lab.id, .string y.tr.lab.nm, .string sy, .slice Ay ny cy, .slice By my dy] wr.drew S bn (by have := HN.out; omega) hbd hyn (nmRep.keep hkr (fun k hk => HKS.out k hk) (fun _ h => h)) (nmRep.keep HY.out (fun k hk => HKS.out k hk) (fun _ h => h)) (fun k hk => ⟨by show k < wr.heap.size; have := (HS.out k hk).1; omega, (HS.out k hk).2⟩) HBR.out)
      clear hbd
      clear hkr hkc hk hnj hst hot
      have HIH := Lib.hid hih
      have HTH := Lib.hid hth
      clear hih hth
      have hxc : w.heap.size + 1 + 1 + 1 < wr.heap.size := by omega
      have hbb : w.heap.size + 1 ≠ bn := by omega
      have hb0 : w.heap.size ≠ bn := by omega
      have hb1 : w.heap.size + 1 + 1 ≠ bn := by omega
      have hb2 : w.heap.size + 1 + 1 + 1 ≠ bn := by omega
      go_wp2_with fail
      go_region_law (first
          | (refine step_call (by rfl) 67 _ (by go_simp) (R := ReplAt v.kids[j] id y Tj.2 bn wr.drew S) HIH.out.out ?_; rintro e w2 ⟨ds, rfl, hu, hc2, hm2⟩; refine ⟨_, rfl, ?_⟩; obtain ⟨s2, A2, n2, c2, B2, m2, d2, rfl, _, _⟩ := Nt.shape hu; have z2 : wr.heap.size ≤ w2.heap.size := hm2.size; have k0 := (hm2.block _ hx0_l hb0).trans HX0.out; have kb := (hm2.block _ hxb_l hbb).trans HXB.out; have KB := Lib.hid kb; clear kb; have k1 := (hm2.block _ hx1_l hb1).trans HX1.out; have k2 := (hm2.block _ hx2_l hb2).trans HX2.out; have k2_5 := cv5 k2; have k2_f := free_heap k2 5; have d3 : w.heap.size + 1 + 1 + 1 < w2.heap.size := (by omega); have hkS2 : ∀ b, S b → w2.heap[b]? = wr.heap[b]? := (fun b hb => hm2.block b (by show b < wr.heap.size; have := (HS.out b hb).1; omega) (HS.out b hb).2); have hown2 := HOWN.out.growEx (w' := w2) hkS2 (fun b h1 h2 => hm2.block b h2 (by omega)) z2; obtain ⟨xs, hownx, hallx⟩ := _root_.id hown2; rw [HLEN.out] at hownx; have HOWNX := Lib.hid hownx; have HALLX := Lib.hid hallx; have HU := Lib.hid hu; have HM2 := Lib.hid hm2; have HC2 := Lib.hid hc2; have K0 := Lib.hid k0; have K1 := Lib.hid k1; have K2 := Lib.hid k2; clear hu hm2 hc2 k0 k1 k2 hkS2 hown2 hownx hallx)
          | (refine step_append_lies _ (by rfl) (.tmp 32) (.tmp 42) _ (by rfl) (w.heap.size + 4) 65 k0 _ 6 96 Tryd.underlying63 hk0 kz0 kz1 kz2 rfl (by omega) (.slice Aq j cq) j xs (by rfl) (HOWNX.out.alloc _) ⟨w2.heap.size, 0, none⟩ 1 1 [.int .i64 (v.kids[j].repl id y Tj.2).1.tr.lab.kind, .int .i64 (v.kids[j].repl id y Tj.2).1.tr.lab.id, .string (v.kids[j].repl id y Tj.2).1.tr.lab.nm, .string s2, .slice A2 n2 c2, .slice B2 m2 d2] (by rfl) (by rfl) (World.news_of_block (cs := #[.int .i64 (v.kids[j].repl id y Tj.2).1.tr.lab.kind, .int .i64 (v.kids[j].repl id y Tj.2).1.tr.lab.id, .string (v.kids[j].repl id y Tj.2).1.tr.lab.nm, .string s2, .slice A2 n2 c2, .slice B2 m2 d2]) (t := 65) (fr := (0, 0)) (heap_alloc_new w2 _)) (by simp [Value.oneCell']) (by omega) (by unfold maxLen; omega) (by omega) (by simp; omega) (w2.heap.size + 1) (by simp) ?_; intro gg cap w3 hown3 hgrow hat hlt; have kk : ∀ b, b < w2.heap.size → (Value.slice Aq j cq).ownBlock ≠ some b → w3.heap[b]? = w2.heap[b]? := (fun b hb hne => (hgrow.block b (by simp; omega) (fun e => hne e.symm)).trans (heap_old hb rfl)); have h3 := (kk (w.heap.size + 1 + 1 + 1) d3 (fun e => by have := (HBLK.out _ e).1; omega)).trans K2.out; have h4 := (kk (w.heap.size + 1 + 1) (by omega) (fun e => by have := (HBLK.out _ e).1; omega)).trans K1.out; have hb5 := (kk (w.heap.size + 1) (by omega) (fun e => by have := (HBLK.out _ e).1; omega)).trans KB.out; have HB5 := Lib.hid hb5; clear hb5; have h5 := (kk w.heap.size (by omega) (fun e => by have := (HBLK.out _ e).1; omega)).trans K0.out; have h3_5 := cv5 h3; have h3_f := free_heap h3 5; have H3 := Lib.hid h3; have H4 := Lib.hid h4; have H5 := Lib.hid h5; clear h3 h4 h5; have z3 : w2.heap.size + 1 ≤ w3.heap.size := (by have := hgrow.size; simpa using this); have HOWN3 := Lib.hid hown3; have HGROW := Lib.hid hgrow; have HAT := Lib.hid hat; have HKK := Lib.hid kk; clear hown3 hgrow hat kk)
          | fail)
      all_goals
        go_wp2_with fail
        go_roundg (v.kids.length - (j + 1))
        case measure => omega
        case rel =>
          have hstep := Rep.stepEx (E := 65) (S := S) (base := (w.heap.size + 4)) (a := (v.kids[j].repl id y Tj.2).1.tr) HLEN.out (fun b hb => by have := (HS.out b hb).1; omega) (by omega) HALLX.out HU.out (fun b hb => by
            rcases hb with hb | ⟨hb, hb'⟩
            · exact ⟨Or.inl hb, fun e => by have := (HBLK.out b e).1; have := (HS.out b hb).1; omega⟩
            · have h' : wr.heap.size ≤ b := hb
              exact ⟨Or.inr ⟨by omega, hb'⟩, fun e => by have := (HBLK.out b e).2; omega⟩) HOWN3.out HGROW.out HAT.out
          have hkb : w3.heap[bn]? = w2.heap[bn]? := HKK.out bn (by omega) (fun e => by have := (HBLK.out _ e).1; omega)
          have hm3 : Mods (· = bn) w.heap.size w w3 := ((HMR.out.drew.trans (HM2.out.mono (B' := w.heap.size) (by show w.heap.size ≤ wr.heap.size; omega))).alloc (by omega) _).grown HGROW.out (by simp; omega) (fun k hk => by have := (HBLK.out k hk).1; omega)
          have hkg : ∀ k, k ≠ w.heap.size + 1 + 1 + 1 → (w3.setCell ⟨w.heap.size + 1 + 1 + 1, 5, none⟩ (.slice (some ⟨gg, 0, none⟩) (j + 1) cap)).heap[k]? = w3.heap[k]? := fun k hk => heap_far _ hk rfl
          refine ⟨j + 1, .slice (some ⟨gg, 0, none⟩) (j + 1) cap, by omega, by go_num, ⟨(hkg _ (by omega)).trans H5.out, (hkg _ (by omega)).trans HB5.out, (hkg _ (by omega)).trans H4.out, heap_set H3.out 5 _⟩, ?_, ?_, hm3.setCell (by simp <;> omega) _, by rw [size_set]; omega⟩
          · rw [HTH.out, List.map_append]
            exact hstep.growEx (fun b hb => hkg b (by have := (HS.out b hb).1; omega)) (fun b hb _ => hkg b (by omega)) (by rw [size_set]; omega)
          · rw [HTH.out]
            exact (hkg bn (by omega)).trans (hkb.trans HC2.out)
    · go_wp2_with fail
      have hjk : j = v.kids.length := by omega
      refine bodyPost_ret (v := .agg #[.int .i64 kd, .int .i64 idn, .string nx, .string sa, .slice Aa na ca, .slice Aq j cq]) (by simp [results, Tryd.results67, go_sem, hx1_0, hx1_1, hx1_2, hx1_3, hx1_4, hx1_5, hx1_l]) rfl ?_
      have hown := HOWN.out
      have hbr := HBR.out
      rw [hjk, List.take_length] at hown hbr
      refine ⟨[.int .i64 kd, .int .i64 idn, .string nx, .string sa, .slice Aa na ca, .slice Aq j cq], rfl, ?_, far6 (by omega) hbr, mods6 HMR.out (by omega)⟩
      refine Nt.shut (a := ⟨kd, idn, nx, ty⟩) HNM.out ?_ ?_
      · exact Ty.In_keep (fun b hb => far6 (by have := (HS.out b hb).1; omega) (HKS.out b hb)) (fun b hb => Or.inl hb) _ _ _ HTY.out
      · rw [hjk]
        exact (Rep.Own.sl (S' := New S (w.heap.size + 4) wr) hown (by rw [List.length_map, thr_len]; unfold maxLen; omega) (fun b hb => hb) (fun b h1 h2 => Or.inr ⟨h1, h2⟩)).keep (fun b hb => far6 (by rcases hb with hb | hb; have := (HS.out b hb).1; omega; omega) rfl) (fun b hb => hb.imp_right (fun h => ⟨by omega, lt6 h.2⟩))


structure CJ (V0 V1 V2 V3 V4 V5 V6 V7 V8 V9 V10 V11 V12 V13 V14 V15 V16 : Value) (R : Value → World → Prop) (Q : World → Prop) (w1 : World) (f : Nat → Bool) (x0 x1 x2 x3 x4 x5 x6 x7 x8 x9 x10 x11 x12 x13 x14 x15 x16 x17 x18 : Value) (W : World) : Prop where
  h0 : f 0 = true → x0 = V0
  h1 : f 1 = true → x1 = V1
  h2 : f 2 = true → x2 = V2
  h3 : f 3 = true → x3 = V3
  h4 : f 4 = true → x4 = V4
  h5 : f 5 = true → x5 = V5
  h6 : f 6 = true → x6 = V6
  h7 : f 7 = true → x7 = V7
  h8 : f 8 = true → x8 = V8
  h9 : f 9 = true → x9 = V9
  h10 : f 10 = true → x10 = V10
  h11 : f 11 = true → x11 = V11
  h12 : f 12 = true → x12 = V12
  h13 : f 13 = true → x13 = V13
  h14 : f 14 = true → x14 = V14
  h15 : f 15 = true → x15 = V15
  h16 : f 16 = true → x16 = V16
  pre : f 17 = false → W = w1
  post : f 17 = true → f 18 = false → R x17 W
  fin : f 18 = true → Q W
  res : f 19 = true → x18 = .bool true
  q1_0 : f 1 = true → f 0 = true
  q2_1 : f 2 = true → f 1 = true
  q3_2 : f 3 = true → f 2 = true
  q4_3 : f 4 = true → f 3 = true
  q5_4 : f 5 = true → f 4 = true
  q6_5 : f 6 = true → f 5 = true
  q8_7 : f 8 = true → f 7 = true
  q9_8 : f 9 = true → f 8 = true
  q10_9 : f 10 = true → f 9 = true
  q11_10 : f 11 = true → f 10 = true
  q13_12 : f 13 = true → f 12 = true
  q14_13 : f 14 = true → f 13 = true
  q15_14 : f 15 = true → f 14 = true
  q17_6 : f 17 = true → f 6 = true
  q17_11 : f 17 = true → f 11 = true
  q17_15 : f 17 = true → f 15 = true
  q17_16 : f 17 = true → f 16 = true
  q18_17 : f 18 = true → f 17 = true

theorem cjf {b : Bool} {p : Prop} (h : b = false) (h' : b = true) : p := by rw [h] at h'; cases h'
section
variable {V0 V1 V2 V3 V4 V5 V6 V7 V8 V9 V10 V11 V12 V13 V14 V15 V16 : Value} {R : Value → World → Prop} {Q : World → Prop} {w1 : World} {f : Nat → Bool} {x0 x1 x2 x3 x4 x5 x6 x7 x8 x9 x10 x11 x12 x13 x14 x15 x16 x17 x18 : Value} {W W' : World}
theorem CJ.start (hf : ∀ k, k < 20 → f k = false) : CJ V0 V1 V2 V3 V4 V5 V6 V7 V8 V9 V10 V11 V12 V13 V14 V15 V16 R Q w1 f x0 x1 x2 x3 x4 x5 x6 x7 x8 x9 x10 x11 x12 x13 x14 x15 x16 x17 x18 w1 where
  h0 h := cjf (hf 0 (by decide)) h
  h1 h := cjf (hf 1 (by decide)) h
  h2 h := cjf (hf 2 (by decide)) h
  h3 h := cjf (hf 3 (by decide)) h
  h4 h := cjf (hf 4 (by decide)) h
  h5 h := cjf (hf 5 (by decide)) h
  h6 h := cjf (hf 6 (by decide)) h
  h7 h := cjf (hf 7 (by decide)) h
  h8 h := cjf (hf 8 (by decide)) h
  h9 h := cjf (hf 9 (by decide)) h
  h10 h := cjf (hf 10 (by decide)) h
  h11 h := cjf (hf 11 (by decide)) h
  h12 h := cjf (hf 12 (by decide)) h
  h13 h := cjf (hf 13 (by decide)) h
  h14 h := cjf (hf 14 (by decide)) h
  h15 h := cjf (hf 15 (by decide)) h
  h16 h := cjf (hf 16 (by decide)) h
  pre _ := rfl
  post h := cjf (hf 17 (by decide)) h
  fin h := cjf (hf 18 (by decide)) h
  res h := cjf (hf 19 (by decide)) h
  q1_0 h := cjf (hf 1 (by decide)) h
  q2_1 h := cjf (hf 2 (by decide)) h
  q3_2 h := cjf (hf 3 (by decide)) h
  q4_3 h := cjf (hf 4 (by decide)) h
  q5_4 h := cjf (hf 5 (by decide)) h
  q6_5 h := cjf (hf 6 (by decide)) h
  q8_7 h := cjf (hf 8 (by decide)) h
  q9_8 h := cjf (hf 9 (by decide)) h
  q10_9 h := cjf (hf 10 (by decide)) h
  q11_10 h := cjf (hf 11 (by decide)) h
  q13_12 h := cjf (hf 13 (by decide)) h
  q14_13 h := cjf (hf 14 (by decide)) h
  q15_14 h := cjf (hf 15 (by decide)) h
  q17_6 h := cjf (hf 17 (by decide)) h
  q17_11 h := cjf (hf 17 (by decide)) h
  q17_15 h := cjf (hf 17 (by decide)) h
  q17_16 h := cjf (hf 17 (by decide)) h
  q18_17 h := cjf (hf 18 (by decide)) h
theorem CJ.st0 (h : CJ V0 V1 V2 V3 V4 V5 V6 V7 V8 V9 V10 V11 V12 V13 V14 V15 V16 R Q w1 f x0 x1 x2 x3 x4 x5 x6 x7 x8 x9 x10 x11 x12 x13 x14 x15 x16 x17 x18 W) : CJ V0 V1 V2 V3 V4 V5 V6 V7 V8 V9 V10 V11 V12 V13 V14 V15 V16 R Q w1 (upd f 0) V0 x1 x2 x3 x4 x5 x6 x7 x8 x9 x10 x11 x12 x13 x14 x15 x16 x17 x18 W := { h with h0 := fun _ => rfl, q1_0 := fun _ => rfl }
theorem CJ.st1 (h : CJ V0 V1 V2 V3 V4 V5 V6 V7 V8 V9 V10 V11 V12 V13 V14 V15 V16 R Q w1 f x0 x1 x2 x3 x4 x5 x6 x7 x8 x9 x10 x11 x12 x13 x14 x15 x16 x17 x18 W) (h0 : f 0 = true) : CJ V0 V1 V2 V3 V4 V5 V6 V7 V8 V9 V10 V11 V12 V13 V14 V15 V16 R Q w1 (upd f 1) x0 V1 x2 x3 x4 x5 x6 x7 x8 x9 x10 x11 x12 x13 x14 x15 x16 x17 x18 W := { h with h1 := fun _ => rfl, q1_0 := fun _ => h0, q2_1 := fun _ => rfl }
theorem CJ.st2 (h : CJ V0 V1 V2 V3 V4 V5 V6 V7 V8 V9 V10 V11 V12 V13 V14 V15 V16 R Q w1 f x0 x1 x2 x3 x4 x5 x6 x7 x8 x9 x10 x11 x12 x13 x14 x15 x16 x17 x18 W) (h1 : f 1 = true) : CJ V0 V1 V2 V3 V4 V5 V6 V7 V8 V9 V10 V11 V12 V13 V14 V15 V16 R Q w1 (upd f 2) x0 x1 V2 x3 x4 x5 x6 x7 x8 x9 x10 x11 x12 x13 x14 x15 x16 x17 x18 W := { h with h2 := fun _ => rfl, q2_1 := fun _ => h1, q3_2 := fun _ => rfl }
theorem CJ.st3 (h : CJ V0 V1 V2 V3 V4 V5 V6 V7 V8 V9 V10 V11 V12 V13 V14 V15 V16 R Q w1 f x0 x1 x2 x3 x4 x5 x6 x7 x8 x9 x10 x11 x12 x13 x14 x15 x16 x17 x18 W) (h2 : f 2 = true) : CJ V0 V1 V2 V3 V4 V5 V6 V7 V8 V9 V10 V11 V12 V13 V14 V15 V16 R Q w1 (upd f 3) x0 x1 x2 V3 x4 x5 x6 x7 x8 x9 x10 x11 x12 x13 x14 x15 x16 x17 x18 W := { h with h3 := fun _ => rfl, q3_2 := fun _ => h2, q4_3 := fun _ => rfl }
theorem CJ.st4 (h : CJ V0 V1 V2 V3 V4 V5 V6 V7 V8 V9 V10 V11 V12 V13 V14 V15 V16 R Q w1 f x0 x1 x2 x3 x4 x5 x6 x7 x8 x9 x10 x11 x12 x13 x14 x15 x16 x17 x18 W) (h3 : f 3 = true) : CJ V0 V1 V2 V3 V4 V5 V6 V7 V8 V9 V10 V11 V12 V13 V14 V15 V16 R Q w1 (upd f 4) x0 x1 x2 x3 V4 x5 x6 x7 x8 x9 x10 x11 x12 x13 x14 x15 x16 x17 x18 W := { h with h4 := fun _ => rfl, q4_3 := fun _ => h3, q5_4 := fun _ => rfl }
theorem CJ.st5 (h : CJ V0 V1 V2 V3 V4 V5 V6 V7 V8 V9 V10 V11 V12 V13 V14 V15 V16 R Q w1 f x0 x1 x2 x3 x4 x5 x6 x7 x8 x9 x10 x11 x12 x13 x14 x15 x16 x17 x18 W) (h4 : f 4 = true) : CJ V0 V1 V2 V3 V4 V5 V6 V7 V8 V9 V10 V11 V12 V13 V14 V15 V16 R Q w1 (upd f 5) x0 x1 x2 x3 x4 V5 x6 x7 x8 x9 x10 x11 x12 x13 x14 x15 x16 x17 x18 W := { h with h5 := fun _ => rfl, q5_4 := fun _ => h4, q6_5 := fun _ => rfl }
theorem CJ.st6 (h : CJ V0 V1 V2 V3 V4 V5 V6 V7 V8 V9 V10 V11 V12 V13 V14 V15 V16 R Q w1 f x0 x1 x2 x3 x4 x5 x6 x7 x8 x9 x10 x11 x12 x13 x14 x15 x16 x17 x18 W) (h5 : f 5 = true) : CJ V0 V1 V2 V3 V4 V5 V6 V7 V8 V9 V10 V11 V12 V13 V14 V15 V16 R Q w1 (upd f 6) x0 x1 x2 x3 x4 x5 V6 x7 x8 x9 x10 x11 x12 x13 x14 x15 x16 x17 x18 W := { h with h6 := fun _ => rfl, q6_5 := fun _ => h5, q17_6 := fun _ => rfl }
theorem CJ.st7 (h : CJ V0 V1 V2 V3 V4 V5 V6 V7 V8 V9 V10 V11 V12 V13 V14 V15 V16 R Q w1 f x0 x1 x2 x3 x4 x5 x6 x7 x8 x9 x10 x11 x12 x13 x14 x15 x16 x17 x18 W) : CJ V0 V1 V2 V3 V4 V5 V6 V7 V8 V9 V10 V11 V12 V13 V14 V15 V16 R Q w1 (upd f 7) x0 x1 x2 x3 x4 x5 x6 V7 x8 x9 x10 x11 x12 x13 x14 x15 x16 x17 x18 W := { h with h7 := fun _ => rfl, q8_7 := fun _ => rfl }
theorem CJ.st8 (h : CJ V0 V1 V2 V3 V4 V5 V6 V7 V8 V9 V10 V11 V12 V13 V14 V15 V16 R Q w1 f x0 x1 x2 x3 x4 x5 x6 x7 x8 x9 x10 x11 x12 x13 x14 x15 x16 x17 x18 W) (h7 : f 7 = true) : CJ V0 V1 V2 V3 V4 V5 V6 V7 V8 V9 V10 V11 V12 V13 V14 V15 V16 R Q w1 (upd f 8) x0 x1 x2 x3 x4 x5 x6 x7 V8 x9 x10 x11 x12 x13 x14 x15 x16 x17 x18 W := { h with h8 := fun _ => rfl, q8_7 := fun _ => h7, q9_8 := fun _ => rfl }
theorem CJ.st9 (h : CJ V0 V1 V2 V3 V4 V5 V6 V7 V8 V9 V10 V11 V12 V13 V14 V15 V16 R Q w1 f x0 x1 x2 x3 x4 x5 x6 x7 x8 x9 x10 x11 x12 x13 x14 x15 x16 x17 x18 W) (h8 : f 8 = true) : CJ V0 V1 V2 V3 V4 V5 V6 V7 V8 V9 V10 V11 V12 V13 V14 V15 V16 R Q w1 (upd f 9) x0 x1 x2 x3 x4 x5 x6 x7 x8 V9 x10 x11 x12 x13 x14 x15 x16 x17 x18 W := { h with h9 := fun _ => rfl, q9_8 := fun _ => h8, q10_9 := fun _ => rfl }
theorem CJ.st10 (h : CJ V0 V1 V2 V3 V4 V5 V6 V7 V8 V9 V10 V11 V12 V13 V14 V15 V16 R Q w1 f x0 x1 x2 x3 x4 x5 x6 x7 x8 x9 x10 x11 x12 x13 x14 x15 x16 x17 x18 W) (h9 : f 9 = true) : CJ V0 V1 V2 V3 V4 V5 V6 V7 V8 V9 V10 V11 V12 V13 V14 V15 V16 R Q w1 (upd f 10) x0 x1 x2 x3 x4 x5 x6 x7 x8 x9 V10 x11 x12 x13 x14 x15 x16 x17 x18 W := { h with h10 := fun _ => rfl, q10_9 := fun _ => h9, q11_10 := fun _ => rfl }
theorem CJ.st11 (h : CJ V0 V1 V2 V3 V4 V5 V6 V7 V8 V9 V10 V11 V12 V13 V14 V15 V16 R Q w1 f x0 x1 x2 x3 x4 x5 x6 x7 x8 x9 x10 x11 x12 x13 x14 x15 x16 x17 x18 W) (h10 : f 10 = true) : CJ V0 V1 V2 V3 V4 V5 V6 V7 V8 V9 V10 V11 V12 V13 V14 V15 V16 R Q w1 (upd f 11) x0 x1 x2 x3 x4 x5 x6 x7 x8 x9 x10 V11 x12 x13 x14 x15 x16 x17 x18 W := { h with h11 := fun _ => rfl, q11_10 := fun _ => h10, q17_11 := fun _ => rfl }
theorem CJ.st12 (h : CJ V0 V1 V2 V3 V4 V5 V6 V7 V8 V9 V10 V11 V12 V13 V14 V15 V16 R Q w1 f x0 x1 x2 x3 x4 x5 x6 x7 x8 x9 x10 x11 x12 x13 x14 x15 x16 x17 x18 W) : CJ V0 V1 V2 V3 V4 V5 V6 V7 V8 V9 V10 V11 V12 V13 V14 V15 V16 R Q w1 (upd f 12) x0 x1 x2 x3 x4 x5 x6 x7 x8 x9 x10 x11 V12 x13 x14 x15 x16 x17 x18 W := { h with h12 := fun _ => rfl, q13_12 := fun _ => rfl }
theorem CJ.st13 (h : CJ V0 V1 V2 V3 V4 V5 V6 V7 V8 V9 V10 V11 V12 V13 V14 V15 V16 R Q w1 f x0 x1 x2 x3 x4 x5 x6 x7 x8 x9 x10 x11 x12 x13 x14 x15 x16 x17 x18 W) (h12 : f 12 = true) : CJ V0 V1 V2 V3 V4 V5 V6 V7 V8 V9 V10 V11 V12 V13 V14 V15 V16 R Q w1 (upd f 13) x0 x1 x2 x3 x4 x5 x6 x7 x8 x9 x10 x11 x12 V13 x14 x15 x16 x17 x18 W := { h with h13 := fun _ => rfl, q13_12 := fun _ => h12, q14_13 := fun _ => rfl }
theorem CJ.st14 (h : CJ V0 V1 V2 V3 V4 V5 V6 V7 V8 V9 V10 V11 V12 V13 V14 V15 V16 R Q w1 f x0 x1 x2 x3 x4 x5 x6 x7 x8 x9 x10 x11 x12 x13 x14 x15 x16 x17 x18 W) (h13 : f 13 = true) : CJ V0 V1 V2 V3 V4 V5 V6 V7 V8 V9 V10 V11 V12 V13 V14 V15 V16 R Q w1 (upd f 14) x0 x1 x2 x3 x4 x5 x6 x7 x8 x9 x10 x11 x12 x13 V14 x15 x16 x17 x18 W := { h with h14 := fun _ => rfl, q14_13 := fun _ => h13, q15_14 := fun _ => rfl }
theorem CJ.st15 (h : CJ V0 V1 V2 V3 V4 V5 V6 V7 V8 V9 V10 V11 V12 V13 V14 V15 V16 R Q w1 f x0 x1 x2 x3 x4 x5 x6 x7 x8 x9 x10 x11 x12 x13 x14 x15 x16 x17 x18 W) (h14 : f 14 = true) : CJ V0 V1 V2 V3 V4 V5 V6 V7 V8 V9 V10 V11 V12 V13 V14 V15 V16 R Q w1 (upd f 15) x0 x1 x2 x3 x4 x5 x6 x7 x8 x9 x10 x11 x12 x13 x14 V15 x16 x17 x18 W := { h with h15 := fun _ => rfl, q15_14 := fun _ => h14, q17_15 := fun _ => rfl }
theorem CJ.st16 (h : CJ V0 V1 V2 V3 V4 V5 V6 V7 V8 V9 V10 V11 V12 V13 V14 V15 V16 R Q w1 f x0 x1 x2 x3 x4 x5 x6 x7 x8 x9 x10 x11 x12 x13 x14 x15 x16 x17 x18 W) : CJ V0 V1 V2 V3 V4 V5 V6 V7 V8 V9 V10 V11 V12 V13 V14 V15 V16 R Q w1 (upd f 16) x0 x1 x2 x3 x4 x5 x6 x7 x8 x9 x10 x11 x12 x13 x14 x15 V16 x17 x18 W := { h with h16 := fun _ => rfl, q17_16 := fun _ => rfl }
theorem CJ.no1 (h : CJ V0 V1 V2 V3 V4 V5 V6 V7 V8 V9 V10 V11 V12 V13 V14 V15 V16 R Q w1 f x0 x1 x2 x3 x4 x5 x6 x7 x8 x9 x10 x11 x12 x13 x14 x15 x16 x17 x18 W) (hn : f 1 = false) : W = w1 := by
  refine h.pre ?_
  cases e : f 17 with
  | false => rfl
  | true =>
    have e6 := h.q17_6 e
    have e5 := h.q6_5 e6
    have e4 := h.q5_4 e5
    have e3 := h.q4_3 e4
    have e2 := h.q3_2 e3
    have e1 := h.q2_1 e2
    exact cjf hn e1
theorem CJ.no4 (h : CJ V0 V1 V2 V3 V4 V5 V6 V7 V8 V9 V10 V11 V12 V13 V14 V15 V16 R Q w1 f x0 x1 x2 x3 x4 x5 x6 x7 x8 x9 x10 x11 x12 x13 x14 x15 x16 x17 x18 W) (hn : f 4 = false) : W = w1 := by
  refine h.pre ?_
  cases e : f 17 with
  | false => rfl
  | true =>
    have e6 := h.q17_6 e
    have e5 := h.q6_5 e6
    have e4 := h.q5_4 e5
    exact cjf hn e4
theorem CJ.no6 (h : CJ V0 V1 V2 V3 V4 V5 V6 V7 V8 V9 V10 V11 V12 V13 V14 V15 V16 R Q w1 f x0 x1 x2 x3 x4 x5 x6 x7 x8 x9 x10 x11 x12 x13 x14 x15 x16 x17 x18 W) (hn : f 6 = false) : W = w1 := by
  refine h.pre ?_
  cases e : f 17 with
  | false => rfl
  | true =>
    have e6 := h.q17_6 e
    exact cjf hn e6
theorem CJ.no8 (h : CJ V0 V1 V2 V3 V4 V5 V6 V7 V8 V9 V10 V11 V12 V13 V14 V15 V16 R Q w1 f x0 x1 x2 x3 x4 x5 x6 x7 x8 x9 x10 x11 x12 x13 x14 x15 x16 x17 x18 W) (hn : f 8 = false) : W = w1 := by
  refine h.pre ?_
  cases e : f 17 with
  | false => rfl
  | true =>
    have e11 := h.q17_11 e
    have e10 := h.q11_10 e11
    have e9 := h.q10_9 e10
    have e8 := h.q9_8 e9
    exact cjf hn e8
theorem CJ.no11 (h : CJ V0 V1 V2 V3 V4 V5 V6 V7 V8 V9 V10 V11 V12 V13 V14 V15 V16 R Q w1 f x0 x1 x2 x3 x4 x5 x6 x7 x8 x9 x10 x11 x12 x13 x14 x15 x16 x17 x18 W) (hn : f 11 = false) : W = w1 := by
  refine h.pre ?_
  cases e : f 17 with
  | false => rfl
  | true =>
    have e11 := h.q17_11 e
    exact cjf hn e11
theorem CJ.no13 (h : CJ V0 V1 V2 V3 V4 V5 V6 V7 V8 V9 V10 V11 V12 V13 V14 V15 V16 R Q w1 f x0 x1 x2 x3 x4 x5 x6 x7 x8 x9 x10 x11 x12 x13 x14 x15 x16 x17 x18 W) (hn : f 13 = false) : W = w1 := by
  refine h.pre ?_
  cases e : f 17 with
  | false => rfl
  | true =>
    have e15 := h.q17_15 e
    have e14 := h.q15_14 e15
    have e13 := h.q14_13 e14
    exact cjf hn e13
theorem CJ.no15 (h : CJ V0 V1 V2 V3 V4 V5 V6 V7 V8 V9 V10 V11 V12 V13 V14 V15 V16 R Q w1 f x0 x1 x2 x3 x4 x5 x6 x7 x8 x9 x10 x11 x12 x13 x14 x15 x16 x17 x18 W) (hn : f 15 = false) : W = w1 := by
  refine h.pre ?_
  cases e : f 17 with
  | false => rfl
  | true =>
    have e15 := h.q17_15 e
    exact cjf hn e15
theorem CJ.no17 (h : CJ V0 V1 V2 V3 V4 V5 V6 V7 V8 V9 V10 V11 V12 V13 V14 V15 V16 R Q w1 f x0 x1 x2 x3 x4 x5 x6 x7 x8 x9 x10 x11 x12 x13 x14 x15 x16 x17 x18 W) (hn : f 17 = false) : W = w1 := h.pre hn
theorem CJ.st17 (h : CJ V0 V1 V2 V3 V4 V5 V6 V7 V8 V9 V10 V11 V12 V13 V14 V15 V16 R Q w1 f x0 x1 x2 x3 x4 x5 x6 x7 x8 x9 x10 x11 x12 x13 x14 x15 x16 x17 x18 W) (h6 : f 6 = true) (h11 : f 11 = true) (h15 : f 15 = true) (h16 : f 16 = true) (hn : f 17 = false) {z : Value} (hr : R z W') : CJ V0 V1 V2 V3 V4 V5 V6 V7 V8 V9 V10 V11 V12 V13 V14 V15 V16 R Q w1 (upd f 17) x0 x1 x2 x3 x4 x5 x6 x7 x8 x9 x10 x11 x12 x13 x14 x15 x16 z x18 W' :=
  { h with
    pre := fun e => (by cases e)
    post := fun _ _ => hr
    fin := fun e => cjf hn (h.q18_17 e)
    q17_6 := fun _ => h6, q17_11 := fun _ => h11, q17_15 := fun _ => h15, q17_16 := fun _ => h16, q18_17 := fun _ => rfl }
theorem CJ.st18 (h : CJ V0 V1 V2 V3 V4 V5 V6 V7 V8 V9 V10 V11 V12 V13 V14 V15 V16 R Q w1 f x0 x1 x2 x3 x4 x5 x6 x7 x8 x9 x10 x11 x12 x13 x14 x15 x16 x17 x18 W) (h17 : f 17 = true) (hq : Q W') : CJ V0 V1 V2 V3 V4 V5 V6 V7 V8 V9 V10 V11 V12 V13 V14 V15 V16 R Q w1 (upd f 18) x0 x1 x2 x3 x4 x5 x6 x7 x8 x9 x10 x11 x12 x13 x14 x15 x16 x17 x18 W' :=
  { h with
    pre := fun e => cjf e h17
    post := fun _ e => (by cases e)
    fin := fun _ => hq
    q18_17 := fun _ => h17 }
theorem CJ.st19 (h : CJ V0 V1 V2 V3 V4 V5 V6 V7 V8 V9 V10 V11 V12 V13 V14 V15 V16 R Q w1 f x0 x1 x2 x3 x4 x5 x6 x7 x8 x9 x10 x11 x12 x13 x14 x15 x16 x17 x18 W) : CJ V0 V1 V2 V3 V4 V5 V6 V7 V8 V9 V10 V11 V12 V13 V14 V15 V16 R Q w1 (upd f 19) x0 x1 x2 x3 x4 x5 x6 x7 x8 x9 x10 x11 x12 x13 x14 x15 x16 x17 (.bool true) W := { h with res := fun _ => rfl }
end
/-- .. the slots left open. -/
def CJx (V0 V1 V2 V3 V4 V5 V6 V7 V8 V9 V10 V11 V12 V13 V14 V15 V16 : Value) (R : Value → World → Prop) (Q : World → Prop) (w1 : World) (f : Nat → Bool) (ys : List Value) (W : World) : Prop :=
  ∃ x0 x1 x2 x3 x4 x5 x6 x7 x8 x9 x10 x11 x12 x13 x14 x15 x16 x17 x18 : Value, ys = [x0, x1, x2, x3, x4, x5, x6, x7, x8, x9, x10, x11, x12, x13, x14, x15, x16, x17, x18] ∧ CJ V0 V1 V2 V3 V4 V5 V6 V7 V8 V9 V10 V11 V12 V13 V14 V15 V16 R Q w1 f x0 x1 x2 x3 x4 x5 x6 x7 x8 x9 x10 x11 x12 x13 x14 x15 x16 x17 x18 W
theorem CJ.mk_ {V0 V1 V2 V3 V4 V5 V6 V7 V8 V9 V10 V11 V12 V13 V14 V15 V16 : Value} {R : Value → World → Prop} {Q : World → Prop} {w1 : World} {f : Nat → Bool} {x0 x1 x2 x3 x4 x5 x6 x7 x8 x9 x10 x11 x12 x13 x14 x15 x16 x17 x18 : Value} {W : World} (h : CJ V0 V1 V2 V3 V4 V5 V6 V7 V8 V9 V10 V11 V12 V13 V14 V15 V16 R Q w1 f x0 x1 x2 x3 x4 x5 x6 x7 x8 x9 x10 x11 x12 x13 x14 x15 x16 x17 x18 W) : CJx V0 V1 V2 V3 V4 V5 V6 V7 V8 V9 V10 V11 V12 V13 V14 V15 V16 R Q w1 f [x0, x1, x2, x3, x4, x5, x6, x7, x8, x9, x10, x11, x12, x13, x14, x15, x16, x17, x18] W := ⟨_, _, _, _, _, _, _, _, _, _, _, _, _, _, _, _, _, _, _, rfl, h⟩
theorem len19 {xs : List Value} (h : xs.length = 19) : ∃ x0 x1 x2 x3 x4 x5 x6 x7 x8 x9 x10 x11 x12 x13 x14 x15 x16 x17 x18 : Value, xs = [x0, x1, x2, x3, x4, x5, x6, x7, x8, x9, x10, x11, x12, x13, x14, x15, x16, x17, x18] := by
  match xs, h with
  | [x0, x1, x2, x3, x4, x5, x6, x7, x8, x9, x10, x11, x12, x13, x14, x15, x16, x17, x18], _ => exact ⟨x0, x1, x2, x3, x4, x5, x6, x7, x8, x9, x10, x11, x12, x13, x14, x15, x16, x17, x18, rfl⟩


def Nm.isRedex : Nm → Bool
  | .app (.abs _ _ _) _ => true
  | _ => false
theorem Nm.contract_kids_none (v : Nm) (n : Nat) (h : v.isRedex = false) (hk : ∀ j (hj : j < v.kids.length), v.kids[j].contract n = none) : v.contract n = none := by
  cases v with
  | con _ _ => rfl
  | var _ => rfl
  | abs i s b =>
    have := hk 0 (by simp [Nm.kids])
    simp only [Nm.kids, List.getElem_cons_zero] at this
    simp [Nm.contract, this]
  | app f x =>
    have h0 := hk 0 (by simp [Nm.kids])
    have h1 := hk 1 (by simp [Nm.kids])
    simp only [Nm.kids, List.getElem_cons_zero, List.getElem_cons_succ] at h0 h1
    rcases Nm.contract_app f x n with ⟨i, s, b, rfl, _⟩ | ⟨_, ⟨r, e, _⟩ | ⟨_, e⟩⟩
    · simp [Nm.isRedex] at h
    · rw [h0] at e; simp at e
    · rw [e, h1]; rfl
theorem Nm.contract_kids_some (v : Nm) (n : Nat) (h : v.isRedex = false) (j : Nat) (hj : j < v.kids.length) (hk : ∀ i (hi : i < v.kids.length), i < j → v.kids[i].contract n = none) (y : Nm × Nat) (hy : v.kids[j].contract n = some y) :
    ∃ u, v.contract n = some (u, y.2) ∧ u.tr = .mk v.lab ((v.kids.set j y.1).map Nm.tr) := by
  match v, j, hj with
  | .abs i s b, 0, _ =>
    simp only [Nm.kids, List.getElem_cons_zero] at hy
    exact ⟨.abs i s y.1, by simp [Nm.contract, hy], rfl⟩
  | .app f x, 0, _ =>
    simp only [Nm.kids, List.getElem_cons_zero] at hy
    rcases Nm.contract_app f x n with ⟨i, s, b, rfl, _⟩ | ⟨_, ⟨r, e1, e⟩ | ⟨e1, _⟩⟩
    · simp [Nm.isRedex] at h
    · rw [hy] at e1; obtain rfl := Option.some.inj e1
      exact ⟨_, e, rfl⟩
    · rw [hy] at e1; simp at e1
  | .app f x, 1, _ =>
    simp only [Nm.kids, List.getElem_cons_succ, List.getElem_cons_zero] at hy
    have h0 := hk 0 (by simp [Nm.kids]) (by omega)
    simp only [Nm.kids, List.getElem_cons_zero] at h0
    rcases Nm.contract_app f x n with ⟨i, s, b, rfl, _⟩ | ⟨_, ⟨r, e1, e⟩ | ⟨e1, e⟩⟩
    · simp [Nm.isRedex] at h
    · rw [h0] at e1; simp at e1
    · exact ⟨.app f y.1, by rw [e, hy]; rfl, rfl⟩
theorem Nm.redex (v : Nm) (h : v.isRedex = true) : ∃ i s b x, v = .app (.abs i s b) x := by
  cases v with
  | app f x => cases f with
    | abs i s b => exact ⟨i, s, b, x, rfl⟩
    | _ => simp [Nm.isRedex] at h
  | _ => simp [Nm.isRedex] at h
theorem Nm.no_redex (v : Nm) (h : v.isRedex = false) : (v.lab.kind == 4) = false ∨ ((v.lab.kind == 4) = true ∧ ∃ f x, v.kids = [f, x] ∧ (f.lab.kind == 3) = false) := by
  cases v with
  | app f x =>
    refine Or.inr ⟨rfl, f, x, rfl, ?_⟩
    cases f with
    | abs i s b => simp [Nm.isRedex] at h
    | _ => rfl
  | _ => exact Or.inl rfl
theorem Nt.kidAt {w : World} {S : Nat → Prop} {l : List Nt} {A : Option Addr} {n c k : Nat} {t : Nt} (h : nmRep.Sl w S (.slice A n c) l) (hk : l[k]? = some t) :
    ∃ b o cs, A = some ⟨b, o, none⟩ ∧ S b ∧ nmRep.R w S t cs ∧ ∀ j u, cs[j]? = some u → w.cell? ⟨b, o + k * 6 + j, none⟩ = some u := Rep.Sl.at_ h hk
/-- What contract leaves. -/
def ContractAt (v : Nm) (n bn : Nat) (w : World) (S : Nat → Prop) (z : Ending) (w' : World) : Prop :=
  ∃ ds : List Value, z = .returned (.tuple #[.agg ds.toArray, .bool (v.contract n).isSome]) ∧ nmRep.R w' (Ex S w w') ((v.contract n).getD (v, n)).1.tr ds ∧ w'.heap[bn]? = some (.cells #[.int .i64 (((v.contract n).getD (v, n)).2 : Nat)] 3 (0, 0)) ∧ Mods (· = bn) w.heap.size w w'

set_option maxRecDepth 100000 in
set_option maxHeartbeats 4000000 in
theorem contract_redex (v : Nm) (n : Nat) (cs : List Value) (w : World) (S : Nat → Prop) (bn : Nat) (hv : v.isRedex = true) (hnb : n + v.nodes * v.nodes ≤ 1000000000000) (hvn : v.nodes ≤ 1000000) (h : nmRep.R w S v.tr cs) (hS : ∀ b, S b → b < w.heap.size ∧ b ≠ bn)
    (hbn : w.heap[bn]? = some (.cells #[.int .i64 n] 3 (0, 0))) :
    Calls Tryd.prog 41 #[.agg cs.toArray, .pointer (some ⟨bn, 0, none⟩)] w (ContractAt v n bn w S) := by
  obtain ⟨ia, s, b, x, rfl⟩ := v.redex hv
  obtain ⟨u0, u1, vs, rfl, hnm, hty, hl⟩ := Nt.open_ h
  obtain ⟨sa, Aa, na, ca, rfl, rfl⟩ := hty.shape
  obtain ⟨A, n', cp, rfl, hln, hm, hA⟩ := hl
  simp only [List.length_cons, List.length_nil] at hln
  subst hln
  obtain ⟨bb, oo, kc1, rfl, hSb, hkr1, hkc1⟩ := Nt.kidAt (l := [(Nm.abs ia s b).tr, x.tr]) (c := cp) (k := 0) ⟨_, _, _, rfl, rfl, hm, hA⟩ rfl
  obtain ⟨bb', oo', kc2, hbo, _, hkr2, hkc2⟩ := Nt.kidAt (l := [(Nm.abs ia s b).tr, x.tr]) (c := cp) (k := 1) ⟨_, _, _, rfl, rfl, hm, hA⟩ rfl
  obtain ⟨rfl, rfl⟩ : bb = bb' ∧ oo = oo' := by simpa using hbo
  obtain ⟨w0, w1', vs1, rfl, _, hty1, hl1⟩ := Nt.open_ hkr1
  obtain ⟨sc, Ac, nc, cc, rfl, rfl⟩ := hty1.shape
  obtain ⟨A1, n1, cp1, rfl, hln1, hm1, hA1⟩ := hl1
  simp only [List.length_cons, List.length_nil] at hln1
  subst hln1
  obtain ⟨bk, ok', kc3, rfl, hSk, hkr3, hkc3⟩ := Nt.kidAt (l := [b.tr]) (c := cp1) (k := 0) ⟨_, _, _, rfl, rfl, hm1, hA1⟩ rfl
  obtain ⟨s2, A2, n2, c2, B2, m2, d2, rfl, _, _⟩ := Nt.shape hkr2
  obtain ⟨s3, A3, n3, c3, B3, m3, d3, rfl, _, _⟩ := Nt.shape hkr3
  have hk := fun (o p : Obj) (k : Nat) (hk : S k) => (show ((w.alloc o).alloc p).heap[k]? = w.heap[k]? from heap_old (by have := (hS k hk).1; simp; omega) (heap_old (hS k hk).1 rfl))
  have hbl := lt_heap hbn
  have f0 := hkc1 0 _ rfl
  rw [show oo + 0 * 6 + 0 = oo by omega] at f0
  have f1 := hkc1 1 _ rfl
  rw [show oo + 0 * 6 + 1 = oo + 1 by omega] at f1
  have f5 := hkc1 5 _ rfl
  rw [show oo + 0 * 6 + 5 = oo + 5 by omega] at f5
  have e0 := hkc2 0 _ rfl
  rw [show oo + 1 * 6 + 0 = oo + 6 by omega] at e0
  have e1 := hkc2 1 _ rfl
  rw [show oo + 1 * 6 + 1 = oo + 6 + 1 by omega] at e1
  have e2 := hkc2 2 _ rfl
  rw [show oo + 1 * 6 + 2 = oo + 6 + 2 by omega] at e2
  have e3 := hkc2 3 _ rfl
  rw [show oo + 1 * 6 + 3 = oo + 6 + 3 by omega] at e3
  have e4 := hkc2 4 _ rfl
  rw [show oo + 1 * 6 + 4 = oo + 6 + 4 by omega] at e4
  have e5 := hkc2 5 _ rfl
  rw [show oo + 1 * 6 + 5 = oo + 6 + 5 by omega] at e5
  have d0 := hkc3 0 _ rfl
  rw [show ok' + 0 * 6 + 0 = ok' by omega] at d0
  have d1' := hkc3 1 _ rfl
  rw [show ok' + 0 * 6 + 1 = ok' + 1 by omega] at d1'
  have d2' := hkc3 2 _ rfl
  rw [show ok' + 0 * 6 + 2 = ok' + 2 by omega] at d2'
  have d3' := hkc3 3 _ rfl
  rw [show ok' + 0 * 6 + 3 = ok' + 3 by omega] at d3'
  have d4' := hkc3 4 _ rfl
  rw [show ok' + 0 * 6 + 4 = ok' + 4 by omega] at d4'
  have d5' := hkc3 5 _ rfl
  rw [show ok' + 0 * 6 + 5 = ok' + 5 by omega] at d5'
  have lb := (hS _ hSb).1
  have lk := (hS _ hSk).1
  have nb1 : bb ≠ bn := (hS _ hSb).2
  have nb2 : bk ≠ bn := (hS _ hSk).2
  have nb0 : w.heap.size ≠ bn := by omega
  have lb1 : bb < w.heap.size + 1 := by omega
  have lk1 : bk < w.heap.size + 1 := by omega
  have lb2 : bb < w.heap.size + 1 + 1 := by omega
  have lk2 : bk < w.heap.size + 1 + 1 := by omega
  have hbx : n + b.nodes * x.nodes ≤ 1000000000000 := by
    have h1 : b.nodes ≤ (Nm.app (.abs ia s b) x).nodes := by simp only [Nm.nodes]; omega
    have h2 : x.nodes ≤ (Nm.app (.abs ia s b) x).nodes := by simp only [Nm.nodes]; omega
    have := Nat.mul_le_mul h1 h2
    omega
  have hxn : x.nodes ≤ 1000000 := by simp only [Nm.nodes] at hvn; omega
  have hrep := fun (o p : Obj) (W1 : World) (hW : W1 = ((w.alloc o).alloc p).drew) => Lib.hid (repl_any b.nodes b ia x n [.int .i64 b.tr.lab.kind, .int .i64 b.tr.lab.id, .string b.tr.lab.nm, .string s3, .slice A3 n3 c3, .slice B3 m3 d3] [.int .i64 x.tr.lab.kind, .int .i64 x.tr.lab.id, .string x.tr.lab.nm, .string s2, .slice A2 n2 c2, .slice B2 m2 d2] W1 S bn (Nat.le_refl _) hbx hxn (nmRep.keep hkr3 (by rw [hW]; exact hk o p) (fun _ h => h)) (nmRep.keep hkr2 (by rw [hW]; exact hk o p) (fun _ h => h)) (fun k hk => ⟨by have := (hS k hk).1; rw [hW]; simp [World.drew]; omega, (hS k hk).2⟩) (by rw [hW]; exact heap_drew (heap_old (by simp; omega) (heap_old hbl hbn))))
  have hst : (Nm.app (.abs ia s b) x).contract n = some (b.repl ia x n) := rfl
  clear h hnm hty1 hkc1 hkc2 hkc3 hkr1 hkr2 hkr3 hA hA1 hm hm1 hv hbx hxn
  have HS := Lib.hid hS
  have HTY := Lib.hid hty
  have HREP := Lib.hid hrep
  have HK := Lib.hid hk
  have HST := Lib.hid hst
  have HBN := Lib.hid hbn
  clear hS hty hrep hk hst hbn
  go_enter Tryd.func41, Tryd.ntmps41
  go_wp2_with fail
  have hcells : ∀ W1 : World, W1 = ((w.alloc (.cells #[.int .i64 4, .int .i64 0, .string bNil, .string sa, .slice Aa na ca, .slice (some ⟨bb, oo, none⟩) 2 cp] 65)).alloc (.cells #[.int .i64 0, .int .i64 0, .string ⟨#[]⟩, .string ⟨#[]⟩, .slice none 0 0, .slice none 0 0] 65)).drew →
      (W1.cell? ⟨w.heap.size, 5, none⟩ = some (.slice (some ⟨bb, oo, none⟩) 2 cp) ∧ (∀ k q, k < w.heap.size → W1.cell? ⟨k, q, none⟩ = w.cell? ⟨k, q, none⟩) ∧ W1.heap.size = w.heap.size + 2 ∧ Mods (· = bn) w.heap.size w W1 ∧ W1.heap[w.heap.size + 1]? = some (.cells #[.int .i64 0, .int .i64 0, .string ⟨#[]⟩, .string ⟨#[]⟩, .slice none 0 0, .slice none 0 0] 65 (0, 0))) := by
    rintro W1 rfl
    refine ⟨cv5 (heap_drew (heap_old (by simp) (heap_at rfl))), fun k q hk => cell_keep (heap_drew (heap_old (by simp; omega) (heap_old hk rfl))) q, by simp [World.drew], (Mods.below (((Below.refl _ w).alloc (Nat.le_refl _) _).alloc (by simp) _)).drew, heap_drew (heap_at (by simp))⟩
  obtain ⟨W1, hWe⟩ : ∃ W1, W1 = ((w.alloc (.cells #[.int .i64 4, .int .i64 0, .string bNil, .string sa, .slice Aa na ca, .slice (some ⟨bb, oo, none⟩) 2 cp] 65)).alloc (.cells #[.int .i64 0, .int .i64 0, .string ⟨#[]⟩, .string ⟨#[]⟩, .slice none 0 0, .slice none 0 0] 65)).drew := ⟨_, rfl⟩
  obtain ⟨a5, hold, zW1, hmW, hr1⟩ := hcells W1 hWe
  have hrep1 := HREP.out _ _ _ hWe
  have hW1 : w.heap.size + 1 < W1.heap.size := by omega
  have hnr : w.heap.size + 1 ≠ bn := by omega
  have lw : w.heap.size < W1.heap.size := by omega
  have lwb : bb < W1.heap.size := by omega
  have lwk : bk < W1.heap.size := by omega
  have f1 := (hold bb (oo + 1) lb).trans f1
  have f5 := (hold bb (oo + 5) lb).trans f5
  have e0 := (hold bb (oo + 6) lb).trans e0
  have e1 := (hold bb (oo + 6 + 1) lb).trans e1
  have e2 := (hold bb (oo + 6 + 2) lb).trans e2
  have e3 := (hold bb (oo + 6 + 3) lb).trans e3
  have e4 := (hold bb (oo + 6 + 4) lb).trans e4
  have e5 := (hold bb (oo + 6 + 5) lb).trans e5
  have d0 := (hold bk ok' lk).trans d0
  have d1' := (hold bk (ok' + 1) lk).trans d1'
  have d2' := (hold bk (ok' + 2) lk).trans d2'
  have d3' := (hold bk (ok' + 3) lk).trans d3'
  have d4' := (hold bk (ok' + 4) lk).trans d4'
  have d5' := (hold bk (ok' + 5) lk).trans d5'
  have HREP := Lib.hid hrep1
  have HW1 := Lib.hid hmW
  have HR1 := Lib.hid hr1
  have HWE := Lib.hid hWe
  clear hcells hold hmW hr1 hrep1 hWe f0
  refine wp_region_frame [21, 22, 23, 24, 25, 26, 27, 28, 29, 30, 31, 32, 33, 34, 35, 36, 37, 38, 5] (CJx (.pointer (some ⟨w.heap.size, 5, none⟩)) (.slice (some ⟨bb, oo, none⟩) 2 cp) (.pointer (some ⟨bb, oo, none⟩)) (.pointer (some ⟨bb, oo + 5, none⟩)) (.slice (some ⟨bk, ok', none⟩) 1 cp1) (.pointer (some ⟨bk, ok', none⟩)) (.agg #[.int .i64 b.tr.lab.kind, .int .i64 b.tr.lab.id, .string b.tr.lab.nm, .string s3, .slice A3 n3 c3, .slice B3 m3 d3]) (.pointer (some ⟨w.heap.size, 5, none⟩)) (.slice (some ⟨bb, oo, none⟩) 2 cp) (.pointer (some ⟨bb, oo, none⟩)) (.pointer (some ⟨bb, oo + 1, none⟩)) (.int .i64 (ia : Int)) (.pointer (some ⟨w.heap.size, 5, none⟩)) (.slice (some ⟨bb, oo, none⟩) 2 cp) (.pointer (some ⟨bb, oo + 6, none⟩)) (.agg #[.int .i64 x.tr.lab.kind, .int .i64 x.tr.lab.id, .string x.tr.lab.nm, .string s2, .slice A2 n2 c2, .slice B2 m2 d2]) (.pointer (some ⟨bn, 0, none⟩)) (fun z W => (∃ (s4 : ByteArray) (A4 : Option Addr) (n4 c4 : Nat) (B4 : Option Addr) (m4 d4 : Nat), z = .agg #[.int .i64 (b.repl ia x n).1.tr.lab.kind, .int .i64 (b.repl ia x n).1.tr.lab.id, .string (b.repl ia x n).1.tr.lab.nm, .string s4, .slice A4 n4 c4, .slice B4 m4 d4] ∧ nmRep.R W (Ex S W1 W) (b.repl ia x n).1.tr [.int .i64 (b.repl ia x n).1.tr.lab.kind, .int .i64 (b.repl ia x n).1.tr.lab.id, .string (b.repl ia x n).1.tr.lab.nm, .string s4, .slice A4 n4 c4, .slice B4 m4 d4] ∧ W.heap[bn]? = some (.cells #[.int .i64 ((b.repl ia x n).2 : Nat)] 3 (0, 0)) ∧ Mods (· = bn) W1.heap.size W1 W)) (fun W => (∃ (s4 : ByteArray) (A4 : Option Addr) (n4 c4 : Nat) (B4 : Option Addr) (m4 d4 : Nat), Mods (· = bn) w.heap.size w W ∧ W.heap[bn]? = some (.cells #[.int .i64 ((b.repl ia x n).2 : Nat)] 3 (0, 0)) ∧ W.heap[w.heap.size + 1]? = some (.cells #[.int .i64 (b.repl ia x n).1.tr.lab.kind, .int .i64 (b.repl ia x n).1.tr.lab.id, .string (b.repl ia x n).1.tr.lab.nm, .string s4, .slice A4 n4 c4, .slice B4 m4 d4] 65 (0, 0)) ∧ nmRep.R W (Ex S w W) (b.repl ia x n).1.tr [.int .i64 (b.repl ia x n).1.tr.lab.kind, .int .i64 (b.repl ia x n).1.tr.lab.id, .string (b.repl ia x n).1.tr.lab.nm, .string s4, .slice A4 n4 c4, .slice B4 m4 d4])) W1) (by kernel_rfl) (by kernel_rfl) ?h0 ?hend ?hstep
  case h0 =>
    intro f xs hf hx _
    obtain ⟨x0, x1, x2, x3, x4, x5, x6, x7, x8, x9, x10, x11, x12, x13, x14, x15, x16, x17, x18, rfl⟩ := len19 hx
    have := HWE.out
    unfold World.drew at this ⊢
    rw [← this]
    exact (CJ.start hf).mk_
  case hend =>
    rintro f xs W hf ⟨x0, x1, x2, x3, x4, x5, x6, x7, x8, x9, x10, x11, x12, x13, x14, x15, x16, x17, x18, rfl, hJ⟩
    obtain ⟨s4, A4, n4, c4, B4, m4, d4, hb, hbx, k0, hu⟩ := hJ.fin (hf 18 (by decide))
    obtain rfl := hJ.res (hf 19 (by decide))
    have hfin : ContractAt (.app (.abs ia s b) x) n bn w S (.returned (.tuple #[.agg ([.int .i64 (b.repl ia x n).1.tr.lab.kind, .int .i64 (b.repl ia x n).1.tr.lab.id, .string (b.repl ia x n).1.tr.lab.nm, .string s4, .slice A4 n4 c4, .slice B4 m4 d4]).toArray, .bool true])) W := by
      unfold ContractAt
      rw [HST.out]
      exact ⟨_, rfl, hu, hbx, hb⟩
    clear hJ hf f1 f5 e0 e1 e2 e3 e4 e5 d0 d1' d2' d3' d4' d5' a5
    have HB := Lib.hid hb
    have HU := Lib.hid hu
    have HFIN := Lib.hid hfin
    have HBX := Lib.hid hbx
    clear hb hu hfin hbx
    have k0_0 := cv0 k0
    have k0_1 := cv1 k0
    have k0_2 := cv2 k0
    have k0_3 := cv3 k0
    have k0_4 := cv4 k0
    have k0_5 := cv5 k0
    have k0_l := lt_heap k0
    have K0 := Lib.hid k0
    clear k0
    simp only [withs, Act.put, List.setIfInBounds_toArray, List.set_cons_succ, List.set_cons_zero]
    go_wp2_with fail
    refine bodyPost_ret (v := .tuple #[.agg #[.int .i64 (b.repl ia x n).1.tr.lab.kind, .int .i64 (b.repl ia x n).1.tr.lab.id, .string (b.repl ia x n).1.tr.lab.nm, .string s4, .slice A4 n4 c4, .slice B4 m4 d4], .bool true]) (by simp [results, Tryd.results41, go_sem, k0_0, k0_1, k0_2, k0_3, k0_4, k0_5, k0_l]) rfl ?_
    exact HFIN.out
  case hstep =>
    rintro io hi f xs W hn hp ⟨x0, x1, x2, x3, x4, x5, x6, x7, x8, x9, x10, x11, x12, x13, x14, x15, x16, x17, x18, rfl, hJ⟩
    have hi : io < 20 := hi
    rcases (by omega : io = 0 ∨ io = 1 ∨ io = 2 ∨ io = 3 ∨ io = 4 ∨ io = 5 ∨ io = 6 ∨ io = 7 ∨ io = 8 ∨ io = 9 ∨ io = 10 ∨ io = 11 ∨ io = 12 ∨ io = 13 ∨ io = 14 ∨ io = 15 ∨ io = 16 ∨ io = 17 ∨ io = 18 ∨ io = 19) with rfl | rfl | rfl | rfl | rfl | rfl | rfl | rfl | rfl | rfl | rfl | rfl | rfl | rfl | rfl | rfl | rfl | rfl | rfl | rfl
    · refine wpOp_run rfl (by rfl) (fun K hK => ?_)
      simp only [withs, Act.put, List.setIfInBounds_toArray, List.set_cons_succ, List.set_cons_zero]
      go_simp
      exact hK _ _ ⟨[(.pointer (some ⟨w.heap.size, 5, none⟩)), x1, x2, x3, x4, x5, x6, x7, x8, x9, x10, x11, x12, x13, x14, x15, x16, x17, x18], (by simp only [withs, Act.put, List.setIfInBounds_toArray, List.set_cons_succ, List.set_cons_zero]), (hJ.st0).mk_⟩
    · have g0 := hp 0 (of_decide_eq_true (by kernel_rfl))
      obtain rfl := hJ.h0 g0
      obtain rfl := hJ.no1 hn
      refine wpOp_run rfl (by rfl) (fun K hK => ?_)
      simp only [withs, Act.put, List.setIfInBounds_toArray, List.set_cons_succ, List.set_cons_zero]
      go_simp
      exact hK _ _ ⟨[(.pointer (some ⟨w.heap.size, 5, none⟩)), (.slice (some ⟨bb, oo, none⟩) 2 cp), x2, x3, x4, x5, x6, x7, x8, x9, x10, x11, x12, x13, x14, x15, x16, x17, x18], (by simp only [withs, Act.put, List.setIfInBounds_toArray, List.set_cons_succ, List.set_cons_zero]), (hJ.st1 g0).mk_⟩
    · have g1 := hp 1 (of_decide_eq_true (by kernel_rfl))
      obtain rfl := hJ.h1 g1
      refine wpOp_run rfl (by rfl) (fun K hK => ?_)
      simp only [withs, Act.put, List.setIfInBounds_toArray, List.set_cons_succ, List.set_cons_zero]
      go_simp
      exact hK _ _ ⟨[x0, (.slice (some ⟨bb, oo, none⟩) 2 cp), (.pointer (some ⟨bb, oo, none⟩)), x3, x4, x5, x6, x7, x8, x9, x10, x11, x12, x13, x14, x15, x16, x17, x18], (by simp only [withs, Act.put, List.setIfInBounds_toArray, List.set_cons_succ, List.set_cons_zero]), (hJ.st2 g1).mk_⟩
    · have g2 := hp 2 (of_decide_eq_true (by kernel_rfl))
      obtain rfl := hJ.h2 g2
      refine wpOp_run rfl (by rfl) (fun K hK => ?_)
      simp only [withs, Act.put, List.setIfInBounds_toArray, List.set_cons_succ, List.set_cons_zero]
      go_simp
      exact hK _ _ ⟨[x0, x1, (.pointer (some ⟨bb, oo, none⟩)), (.pointer (some ⟨bb, oo + 5, none⟩)), x4, x5, x6, x7, x8, x9, x10, x11, x12, x13, x14, x15, x16, x17, x18], (by simp only [withs, Act.put, List.setIfInBounds_toArray, List.set_cons_succ, List.set_cons_zero]), (hJ.st3 g2).mk_⟩
    · have g3 := hp 3 (of_decide_eq_true (by kernel_rfl))
      obtain rfl := hJ.h3 g3
      obtain rfl := hJ.no4 hn
      refine wpOp_run rfl (by rfl) (fun K hK => ?_)
      simp only [withs, Act.put, List.setIfInBounds_toArray, List.set_cons_succ, List.set_cons_zero]
      go_simp
      exact hK _ _ ⟨[x0, x1, x2, (.pointer (some ⟨bb, oo + 5, none⟩)), (.slice (some ⟨bk, ok', none⟩) 1 cp1), x5, x6, x7, x8, x9, x10, x11, x12, x13, x14, x15, x16, x17, x18], (by simp only [withs, Act.put, List.setIfInBounds_toArray, List.set_cons_succ, List.set_cons_zero]), (hJ.st4 g3).mk_⟩
    · have g4 := hp 4 (of_decide_eq_true (by kernel_rfl))
      obtain rfl := hJ.h4 g4
      refine wpOp_run rfl (by rfl) (fun K hK => ?_)
      simp only [withs, Act.put, List.setIfInBounds_toArray, List.set_cons_succ, List.set_cons_zero]
      go_simp
      exact hK _ _ ⟨[x0, x1, x2, x3, (.slice (some ⟨bk, ok', none⟩) 1 cp1), (.pointer (some ⟨bk, ok', none⟩)), x6, x7, x8, x9, x10, x11, x12, x13, x14, x15, x16, x17, x18], (by simp only [withs, Act.put, List.setIfInBounds_toArray, List.set_cons_succ, List.set_cons_zero]), (hJ.st5 g4).mk_⟩
    · have g5 := hp 5 (of_decide_eq_true (by kernel_rfl))
      obtain rfl := hJ.h5 g5
      obtain rfl := hJ.no6 hn
      refine wpOp_run rfl (by rfl) (fun K hK => ?_)
      simp only [withs, Act.put, List.setIfInBounds_toArray, List.set_cons_succ, List.set_cons_zero]
      go_simp
      exact hK _ _ ⟨[x0, x1, x2, x3, x4, (.pointer (some ⟨bk, ok', none⟩)), (.agg #[.int .i64 b.tr.lab.kind, .int .i64 b.tr.lab.id, .string b.tr.lab.nm, .string s3, .slice A3 n3 c3, .slice B3 m3 d3]), x7, x8, x9, x10, x11, x12, x13, x14, x15, x16, x17, x18], (by simp only [withs, Act.put, List.setIfInBounds_toArray, List.set_cons_succ, List.set_cons_zero]), (hJ.st6 g5).mk_⟩
    · refine wpOp_run rfl (by rfl) (fun K hK => ?_)
      simp only [withs, Act.put, List.setIfInBounds_toArray, List.set_cons_succ, List.set_cons_zero]
      go_simp
      exact hK _ _ ⟨[x0, x1, x2, x3, x4, x5, x6, (.pointer (some ⟨w.heap.size, 5, none⟩)), x8, x9, x10, x11, x12, x13, x14, x15, x16, x17, x18], (by simp only [withs, Act.put, List.setIfInBounds_toArray, List.set_cons_succ, List.set_cons_zero]), (hJ.st7).mk_⟩
    · have g7 := hp 7 (of_decide_eq_true (by kernel_rfl))
      obtain rfl := hJ.h7 g7
      obtain rfl := hJ.no8 hn
      refine wpOp_run rfl (by rfl) (fun K hK => ?_)
      simp only [withs, Act.put, List.setIfInBounds_toArray, List.set_cons_succ, List.set_cons_zero]
      go_simp
      exact hK _ _ ⟨[x0, x1, x2, x3, x4, x5, x6, (.pointer (some ⟨w.heap.size, 5, none⟩)), (.slice (some ⟨bb, oo, none⟩) 2 cp), x9, x10, x11, x12, x13, x14, x15, x16, x17, x18], (by simp only [withs, Act.put, List.setIfInBounds_toArray, List.set_cons_succ, List.set_cons_zero]), (hJ.st8 g7).mk_⟩
    · have g8 := hp 8 (of_decide_eq_true (by kernel_rfl))
      obtain rfl := hJ.h8 g8
      refine wpOp_run rfl (by rfl) (fun K hK => ?_)
      simp only [withs, Act.put, List.setIfInBounds_toArray, List.set_cons_succ, List.set_cons_zero]
      go_simp
      exact hK _ _ ⟨[x0, x1, x2, x3, x4, x5, x6, x7, (.slice (some ⟨bb, oo, none⟩) 2 cp), (.pointer (some ⟨bb, oo, none⟩)), x10, x11, x12, x13, x14, x15, x16, x17, x18], (by simp only [withs, Act.put, List.setIfInBounds_toArray, List.set_cons_succ, List.set_cons_zero]), (hJ.st9 g8).mk_⟩
    · have g9 := hp 9 (of_decide_eq_true (by kernel_rfl))
      obtain rfl := hJ.h9 g9
      refine wpOp_run rfl (by rfl) (fun K hK => ?_)
      simp only [withs, Act.put, List.setIfInBounds_toArray, List.set_cons_succ, List.set_cons_zero]
      go_simp
      exact hK _ _ ⟨[x0, x1, x2, x3, x4, x5, x6, x7, x8, (.pointer (some ⟨bb, oo, none⟩)), (.pointer (some ⟨bb, oo + 1, none⟩)), x11, x12, x13, x14, x15, x16, x17, x18], (by simp only [withs, Act.put, List.setIfInBounds_toArray, List.set_cons_succ, List.set_cons_zero]), (hJ.st10 g9).mk_⟩
    · have g10 := hp 10 (of_decide_eq_true (by kernel_rfl))
      obtain rfl := hJ.h10 g10
      obtain rfl := hJ.no11 hn
      refine wpOp_run rfl (by rfl) (fun K hK => ?_)
      simp only [withs, Act.put, List.setIfInBounds_toArray, List.set_cons_succ, List.set_cons_zero]
      go_simp
      exact hK _ _ ⟨[x0, x1, x2, x3, x4, x5, x6, x7, x8, x9, (.pointer (some ⟨bb, oo + 1, none⟩)), (.int .i64 (ia : Int)), x12, x13, x14, x15, x16, x17, x18], (by simp only [withs, Act.put, List.setIfInBounds_toArray, List.set_cons_succ, List.set_cons_zero]), (hJ.st11 g10).mk_⟩
    · refine wpOp_run rfl (by rfl) (fun K hK => ?_)
      simp only [withs, Act.put, List.setIfInBounds_toArray, List.set_cons_succ, List.set_cons_zero]
      go_simp
      exact hK _ _ ⟨[x0, x1, x2, x3, x4, x5, x6, x7, x8, x9, x10, x11, (.pointer (some ⟨w.heap.size, 5, none⟩)), x13, x14, x15, x16, x17, x18], (by simp only [withs, Act.put, List.setIfInBounds_toArray, List.set_cons_succ, List.set_cons_zero]), (hJ.st12).mk_⟩
    · have g12 := hp 12 (of_decide_eq_true (by kernel_rfl))
      obtain rfl := hJ.h12 g12
      obtain rfl := hJ.no13 hn
      refine wpOp_run rfl (by rfl) (fun K hK => ?_)
      simp only [withs, Act.put, List.setIfInBounds_toArray, List.set_cons_succ, List.set_cons_zero]
      go_simp
      exact hK _ _ ⟨[x0, x1, x2, x3, x4, x5, x6, x7, x8, x9, x10, x11, (.pointer (some ⟨w.heap.size, 5, none⟩)), (.slice (some ⟨bb, oo, none⟩) 2 cp), x14, x15, x16, x17, x18], (by simp only [withs, Act.put, List.setIfInBounds_toArray, List.set_cons_succ, List.set_cons_zero]), (hJ.st13 g12).mk_⟩
    · have g13 := hp 13 (of_decide_eq_true (by kernel_rfl))
      obtain rfl := hJ.h13 g13
      refine wpOp_run rfl (by rfl) (fun K hK => ?_)
      simp only [withs, Act.put, List.setIfInBounds_toArray, List.set_cons_succ, List.set_cons_zero]
      go_simp
      exact hK _ _ ⟨[x0, x1, x2, x3, x4, x5, x6, x7, x8, x9, x10, x11, x12, (.slice (some ⟨bb, oo, none⟩) 2 cp), (.pointer (some ⟨bb, oo + 6, none⟩)), x15, x16, x17, x18], (by simp only [withs, Act.put, List.setIfInBounds_toArray, List.set_cons_succ, List.set_cons_zero]), (hJ.st14 g13).mk_⟩
    · have g14 := hp 14 (of_decide_eq_true (by kernel_rfl))
      obtain rfl := hJ.h14 g14
      obtain rfl := hJ.no15 hn
      refine wpOp_run rfl (by rfl) (fun K hK => ?_)
      simp only [withs, Act.put, List.setIfInBounds_toArray, List.set_cons_succ, List.set_cons_zero]
      go_simp
      exact hK _ _ ⟨[x0, x1, x2, x3, x4, x5, x6, x7, x8, x9, x10, x11, x12, x13, (.pointer (some ⟨bb, oo + 6, none⟩)), (.agg #[.int .i64 x.tr.lab.kind, .int .i64 x.tr.lab.id, .string x.tr.lab.nm, .string s2, .slice A2 n2 c2, .slice B2 m2 d2]), x16, x17, x18], (by simp only [withs, Act.put, List.setIfInBounds_toArray, List.set_cons_succ, List.set_cons_zero]), (hJ.st15 g14).mk_⟩
    · refine wpOp_run rfl (by rfl) (fun K hK => ?_)
      simp only [withs, Act.put, List.setIfInBounds_toArray, List.set_cons_succ, List.set_cons_zero]
      go_simp
      exact hK _ _ ⟨[x0, x1, x2, x3, x4, x5, x6, x7, x8, x9, x10, x11, x12, x13, x14, x15, (.pointer (some ⟨bn, 0, none⟩)), x17, x18], (by simp only [withs, Act.put, List.setIfInBounds_toArray, List.set_cons_succ, List.set_cons_zero]), (hJ.st16).mk_⟩
    · have g6 := hp 6 (of_decide_eq_true (by kernel_rfl))
      have g11 := hp 11 (of_decide_eq_true (by kernel_rfl))
      have g15 := hp 15 (of_decide_eq_true (by kernel_rfl))
      have g16 := hp 16 (of_decide_eq_true (by kernel_rfl))
      obtain rfl := hJ.h6 g6
      obtain rfl := hJ.h11 g11
      obtain rfl := hJ.h15 g15
      obtain rfl := hJ.h16 g16
      obtain rfl := hJ.no17 hn
      refine wpOp_run rfl (by rfl) (fun K hK => ?_)
      simp only [withs, Act.put, List.setIfInBounds_toArray, List.set_cons_succ, List.set_cons_zero]
      refine step_wp (by rfl) ?_
      refine step_call (by rfl) 67 _ (by go_simp) HREP.out.out ?_
      rintro z w2 ⟨ds, rfl, hu, hb2, hm2⟩
      obtain ⟨s4, A4, n4, c4, B4, m4, d4, rfl, _, _⟩ := Nt.shape hu
      refine ⟨_, rfl, ?_⟩
      exact hK _ _ ⟨[x0, x1, x2, x3, x4, x5, (.agg #[.int .i64 b.tr.lab.kind, .int .i64 b.tr.lab.id, .string b.tr.lab.nm, .string s3, .slice A3 n3 c3, .slice B3 m3 d3]), x7, x8, x9, x10, (.int .i64 (ia : Int)), x12, x13, x14, (.agg #[.int .i64 x.tr.lab.kind, .int .i64 x.tr.lab.id, .string x.tr.lab.nm, .string s2, .slice A2 n2 c2, .slice B2 m2 d2]), (.pointer (some ⟨bn, 0, none⟩)), (.agg #[.int .i64 (b.repl ia x n).1.tr.lab.kind, .int .i64 (b.repl ia x n).1.tr.lab.id, .string (b.repl ia x n).1.tr.lab.nm, .string s4, .slice A4 n4 c4, .slice B4 m4 d4]), x18], (by show Act.put _ (some 38) _ = _; simp only [withs, Act.put, List.setIfInBounds_toArray, List.set_cons_succ, List.set_cons_zero]), (hJ.st17 g6 g11 g15 g16 hn ⟨s4, A4, n4, c4, B4, m4, d4, rfl, hu, hb2, hm2⟩).mk_⟩
    · have g17 := hp 17 (of_decide_eq_true (by kernel_rfl))
      obtain ⟨s4, A4, n4, c4, B4, m4, d4, rfl, hu, hb2, hm2⟩ := hJ.post g17 hn
      have hr := (hm2.block (w.heap.size + 1) hW1 hnr).trans HR1.out
      have hr_f0 := free_heap hr 0
      have hr_f1 := free_heap hr 1
      have hr_f2 := free_heap hr 2
      have hr_f3 := free_heap hr 3
      have hr_f4 := free_heap hr 4
      have hr_f5 := free_heap hr 5
      have hr_0 := cv0 hr
      have hr_1 := cv1 hr
      have hr_2 := cv2 hr
      have hr_3 := cv3 hr
      have hr_4 := cv4 hr
      have hr_5 := cv5 hr
      have hr_l := lt_heap hr
      have HU := Lib.hid hu
      have HB2 := Lib.hid hb2
      have HM2 := Lib.hid hm2
      clear hu hb2 hm2
      refine wpOp_run rfl (by rfl) (fun K hK => ?_)
      simp only [withs, Act.put, List.setIfInBounds_toArray, List.set_cons_succ, List.set_cons_zero]
      go_simp
      refine hK _ _ ⟨[x0, x1, x2, x3, x4, x5, x6, x7, x8, x9, x10, x11, x12, x13, x14, x15, x16, (.agg #[.int .i64 (b.repl ia x n).1.tr.lab.kind, .int .i64 (b.repl ia x n).1.tr.lab.id, .string (b.repl ia x n).1.tr.lab.nm, .string s4, .slice A4 n4 c4, .slice B4 m4 d4]), x18], (by simp only [withs, Act.put, List.setIfInBounds_toArray, List.set_cons_succ, List.set_cons_zero]), (hJ.st18 g17 ⟨s4, A4, n4, c4, B4, m4, d4, mods6 (HW1.out.trans (HM2.out.mono (by omega))) (by omega), far6 (by omega) HB2.out, at6 hr, ?_⟩).mk_⟩
      refine nmRep.keep HU.out (fun k hk => far6 ?_ rfl) (fun k hk => ?_)
      · rcases hk with hk | hk
        · have := (HS.out k hk).1; omega
        · have := hk.1; omega
      · exact hk.imp_right (fun h => ⟨by have := h.1; omega, lt6 h.2⟩)
    · refine wpOp_run rfl (by rfl) (fun K hK => ?_)
      simp only [withs, Act.put, List.setIfInBounds_toArray, List.set_cons_succ, List.set_cons_zero]
      go_simp
      exact hK _ _ ⟨[x0, x1, x2, x3, x4, x5, x6, x7, x8, x9, x10, x11, x12, x13, x14, x15, x16, x17, (.bool true)], (by simp only [withs, Act.put, List.setIfInBounds_toArray, List.set_cons_succ, List.set_cons_zero]), hJ.st19.mk_⟩


set_option maxRecDepth 100000 in
set_option maxHeartbeats 4000000 in
theorem contract_any : ∀ (N : Nat) (v : Nm) (n : Nat) (cs : List Value) (w : World) (S : Nat → Prop) (bn : Nat), v.nodes ≤ N → n + v.nodes * v.nodes ≤ 1000000000000 → v.nodes ≤ 1000000 → nmRep.R w S v.tr cs → (∀ b, S b → b < w.heap.size ∧ b ≠ bn) →
    w.heap[bn]? = some (.cells #[.int .i64 n] 3 (0, 0)) →
    Calls Tryd.prog 41 #[.agg cs.toArray, .pointer (some ⟨bn, 0, none⟩)] w (ContractAt v n bn w S) := by
  intro N
  induction N with
  | zero => intro v; have := v.nodes_pos; intros; omega
  | succ N ih =>
  intro v n cs w S bn hN hnb hvn h hS hbn
  have IH := Lib.hid ih
  clear ih
  have hbl := lt_heap hbn
  by_cases hv : v.isRedex = true
  · exact contract_redex v n cs w S bn hv hnb hvn h hS hbn
  rw [Bool.not_eq_true] at hv
  have HRV := Lib.hid h
  rw [Nm.tr_eq] at h
  obtain ⟨u0, u1, vs, rfl, hnm, hty, hl⟩ := Nt.open_ h
  obtain ⟨sa, Aa, na, ca, rfl, rfl⟩ := hty.shape
  have HL := Lib.hid hl
  have hkl := v.kids_len
  have hno := v.no_redex hv
  obtain ⟨A, m, c, rfl, hln, hm, _⟩ := hl
  rw [List.length_map] at hln
  subst hln
  have HNM := Lib.hid hnm
  have HKN : Hid (∀ j (hj : j < v.kids.length), v.kids[j].nodes < v.nodes) := Lib.hid v.kids_nodes
  have HNONE : Hid _ := Lib.hid (Nm.contract_kids_none v n hv)
  have HSOME : Hid _ := Lib.hid (Nm.contract_kids_some v n hv)
  have HLAB := Lib.hid (rfl : v.lab = v.lab)
  generalize hlab : v.lab = lab at h hty hno hnm HNM HSOME HRV
  obtain ⟨kd, idn, nx, ty⟩ := lab
  simp only at hty hno
  clear h hnm hm HLAB hlab
  obtain ⟨i0, hi0, hz0, hz1, hz2⟩ := info_parts infoNamed
  have HS := Lib.hid hS
  have HN := Lib.hid hN
  have HTY := Lib.hid hty
  have HV := Lib.hid hv
  have HBN := Lib.hid hbn
  clear hS hN hty hv hbn
  go_enter Tryd.func41, Tryd.ntmps41
  go_upto_region 1 with (fail)
  go_cut [20] (fun s20 wx => s20 = .bool false ∧ wx = (w.alloc (.cells #[.int .i64 kd, .int .i64 idn, .string nx, .string sa, .slice Aa na ca, .slice A v.kids.length c] 65)).alloc (.cells #[.int .i64 0, .int .i64 0, .string ⟨#[]⟩, .string ⟨#[]⟩, .slice none 0 0, .slice none 0 0] 65))
  case first =>
    rcases hno with hk4 | ⟨hk4, f, x, hkids, hk3⟩
    · go_wp2_with fail
      go_meet
      exact ⟨rfl, rfl⟩
    · obtain ⟨b, o, kc, rfl, hSb, hkr, hkc⟩ := Rep.Sl.at_ HL.out (k := 0) (a := f.tr) (by rw [hkids]; rfl)
      obtain ⟨s1, A1, n1, c1, B1, m1, d1, rfl, _, _⟩ := Nt.shape hkr
      have e0 := hkc 0 _ rfl
      rw [show o + 0 * nmRep.size + 0 = o by omega, show f.tr.lab = f.lab by rw [Nm.tr_eq]; rfl] at e0
      have lb := (HS.out _ hSb).1
      have lb1 : b < w.heap.size + 1 := by omega
      have q0 : (0 : Int) < (v.kids.length : Int) := by rw [hkids]; simp
      clear hkr hkc hkids
      go_wp2_with fail
      go_meet
      exact ⟨rfl, rfl⟩
  case rest =>
  obtain ⟨rfl, rfl⟩ := hcut
  clear hno
  go_wp2_with fail
  go_loopg [42] v.kids.length (fun g vi wr => ∃ (j : Nat), j + g = v.kids.length ∧ vi = .int .i64 j ∧ (∀ i (hi : i < v.kids.length), i < j → v.kids[i].contract n = none) ∧ wr.heap[bn]? = some (.cells #[.int .i64 n] 3 (0, 0)) ∧ wr.heap[w.heap.size]? = some (.cells #[.int .i64 kd, .int .i64 idn, .string nx, .string sa, .slice Aa na ca, .slice A v.kids.length c] 65 (0, 0)) ∧
    wr.heap[w.heap.size + 1]? = some (.cells #[.int .i64 0, .int .i64 0, .string ⟨#[]⟩, .string ⟨#[]⟩, .slice none 0 0, .slice none 0 0] 65 (0, 0)) ∧ Mods (· = bn) w.heap.size w wr ∧ w.heap.size + 2 ≤ wr.heap.size)
  case atStart => exact ⟨0, by omega, rfl, fun i hi h => absurd h (by omega), heap_old (by simp; omega) (heap_old hbl HBN.out), heap_old (by simp) (heap_at rfl), heap_at (by simp), Mods.below (by go_grown), by simp⟩
  case round =>
    obtain ⟨j, hj, rfl, hpre, hbr, ht, hr, hb, hw1s⟩ := hrel
    have hbs : ∀ k, S k → wr.heap[k]? = w.heap[k]? := fun k hk => hb.block k (HS.out k hk).1 (HS.out k hk).2
    have HB := Lib.hid hb
    have HPRE := Lib.hid hpre
    have HBR := Lib.hid hbr
    have HBS := Lib.hid hbs
    clear hb hpre hbr hbs
    have ht_0 := cv0 ht
    have ht_1 := cv1 ht
    have ht_2 := cv2 ht
    have ht_3 := cv3 ht
    have ht_4 := cv4 ht
    have ht_5 := cv5 ht
    have ht_l := lt_heap ht
    have HT := Lib.hid ht
    clear ht
    have hr_0 := cv0 hr
    have hr_1 := cv1 hr
    have hr_2 := cv2 hr
    have hr_3 := cv3 hr
    have hr_4 := cv4 hr
    have hr_5 := cv5 hr
    have hr_f0 := free_heap hr 0
    have hr_f1 := free_heap hr 1
    have hr_f2 := free_heap hr 2
    have hr_f3 := free_heap hr 3
    have hr_f4 := free_heap hr 4
    have hr_f5 := free_heap hr 5
    have hr_l := lt_heap hr
    have HR := Lib.hid hr
    clear hr
    by_cases hjl : j < v.kids.length
    case neg =>
      have hst : v.contract n = none := HNONE.out (fun i hi => HPRE.out i hi (by omega))
      have HST := Lib.hid hst
      clear hst
      go_wp2_with fail
      refine bodyPost_ret (v := .tuple #[.agg #[.int .i64 kd, .int .i64 idn, .string nx, .string sa, .slice Aa na ca, .slice A v.kids.length c], .bool false]) (by simp [results, Tryd.results41, go_sem, hr_0, hr_1, hr_2, hr_3, hr_4, hr_5, hr_l]) rfl ?_
      unfold ContractAt
      rw [HST.out]
      exact ⟨_, rfl, nmRep.keep HRV.out (fun k hk => far6 (by have := HS.out k hk; omega) (HBS.out k hk)) (fun k hk => Or.inl hk), far6 (by omega) HBR.out, mods6 HB.out (by omega)⟩
    obtain ⟨b, o, kc, rfl, hSb, hkr, hkc⟩ := Rep.Sl.at_ HL.out (k := j) (a := v.kids[j].tr) (by simp [hjl])
    obtain ⟨s1, A1, n1, c1, B1, m1, d1, rfl, _, _⟩ := Nt.shape hkr
    have hbb := (HS.out _ hSb).1
    have hk := HBS.out b hSb
    have e0 : wr.cell? ⟨b, o + j * 6, none⟩ = _ := (cell_keep hk _).trans (hkc 0 _ rfl)
    have e1 : wr.cell? ⟨b, o + j * 6 + 1, none⟩ = _ := (cell_keep hk _).trans (hkc 1 _ rfl)
    have e2 : wr.cell? ⟨b, o + j * 6 + 2, none⟩ = _ := (cell_keep hk _).trans (hkc 2 _ rfl)
    have e3 : wr.cell? ⟨b, o + j * 6 + 3, none⟩ = _ := (cell_keep hk _).trans (hkc 3 _ rfl)
    have e4 : wr.cell? ⟨b, o + j * 6 + 4, none⟩ = _ := (cell_keep hk _).trans (hkc 4 _ rfl)
    have e5 : wr.cell? ⟨b, o + j * 6 + 5, none⟩ = _ := (cell_keep hk _).trans (hkc 5 _ rfl)
    have hX := (nmRep.keep hkr (fun k hk => HBS.out k hk) (fun _ h => h))
    have zb : b < wr.heap.size := by have := HB.out.size; omega
    have q0 : (0 : Int) ≤ (j : Int) := by omega
    have q1 : (j : Int) < (v.kids.length : Int) := by omega
    have hSw : ∀ k, S k → k < wr.heap.size := fun k hk => by have := HS.out k hk; have := HB.out.size; omega
    have hkn := HKN.out j hjl
    have hnk : n + v.kids[j].nodes * v.kids[j].nodes ≤ 1000000000000 := by
      have := Nat.mul_le_mul (Nat.le_of_lt hkn) (Nat.le_of_lt hkn)
      omega
    have hih := Lib.hid (IH.out v.kids[j] n [.int .i64 v.kids[j].tr.lab.kind, .int .i64 v.kids[j].tr.lab.id, .string v.kids[j].tr.lab.nm, .string s1, .slice A1 n1 c1, .slice B1 m1 d1] wr S bn (by have := HN.out; omega) hnk (by omega) hX (fun k hk => ⟨hSw k hk, (HS.out k hk).2⟩) HBR.out)
    have hnb0 : w.heap.size ≠ bn := by omega
    have hnb1 : w.heap.size + 1 ≠ bn := by omega
    clear hkr hkc hk
    have HX := Lib.hid hX
    have HSW := Lib.hid hSw
    have HIH := Lib.hid hih
    clear hX hSw hih
    go_wp2_with fail
    (with_reducible refine HIH.out.out.mono ?_)
    unfold ContractAt
    rintro e w2 ⟨ds, rfl, hu, hb2n, hw2⟩
    obtain ⟨s2, A2, n2, c2, B2, m2, d2, rfl, _, _⟩ := Nt.shape hu
    have z2 : wr.heap.size ≤ w2.heap.size := hw2.size
    have hw2k : ∀ k, k < wr.heap.size → k ≠ bn → w2.heap[k]? = wr.heap[k]? := hw2.block
    have ht := (hw2k _ ht_l hnb0).trans HT.out
    have hr := (hw2k _ hr_l hnb1).trans HR.out
    have hb2 : Mods (· = bn) w.heap.size w w2 := HB.out.trans (hw2.mono (by omega))
    clear ht_0 ht_1 ht_2 ht_3 ht_4 ht_5 ht_l hr_0 hr_1 hr_2 hr_3 hr_4 hr_5 hr_f0 hr_f1 hr_f2 hr_f3 hr_f4 hr_f5 hr_l e0 e1 e2 e3 e4 e5
    have HU := Lib.hid hu
    have HW2 := Lib.hid hw2
    have HW2K := Lib.hid hw2k
    have HB2 := Lib.hid hb2
    have HB2N := Lib.hid hb2n
    clear hu hw2 hw2k hb2 hb2n
    have ht_0 := cv0 ht
    have ht_1 := cv1 ht
    have ht_2 := cv2 ht
    have ht_3 := cv3 ht
    have ht_4 := cv4 ht
    have ht_5 := cv5 ht
    have ht_l := lt_heap ht
    have HT := Lib.hid ht
    clear ht
    have hr_0 := cv0 hr
    have hr_1 := cv1 hr
    have hr_2 := cv2 hr
    have hr_3 := cv3 hr
    have hr_4 := cv4 hr
    have hr_5 := cv5 hr
    have hr_f0 := free_heap hr 0
    have hr_f1 := free_heap hr 1
    have hr_f2 := free_heap hr 2
    have hr_f3 := free_heap hr 3
    have hr_f4 := free_heap hr 4
    have hr_f5 := free_heap hr 5
    have hr_l := lt_heap hr
    have HR := Lib.hid hr
    clear hr
    cases hst : v.kids[j].contract n with
    | none =>
      rw [hst] at HB2N
      simp only [Option.getD_none] at HB2N
      have HST := Lib.hid hst
      clear hst
      simp only [HST.out, Option.isSome_none]
      go_wp2_with fail
      go_roundg (v.kids.length - (j + 1))
      case measure => omega
      case rel =>
        refine ⟨j + 1, by omega, by go_num, fun i hi h => ?_, heap_old (by omega) HB2N.out, heap_old ht_l HT.out, heap_old hr_l HR.out, HB2.out.alloc (by omega) _, by simp; omega⟩
        rcases Nat.lt_or_ge i j with h' | h'
        · exact HPRE.out i hi h'
        · obtain rfl : i = j := by omega
          exact HST.out
    | some yr =>
      obtain ⟨y, ny⟩ := yr
      obtain ⟨u, hvs, hut⟩ := HSOME.out j hjl HPRE.out (y, ny) hst
      rw [hst] at HU HB2N
      have HST := Lib.hid hst
      have HVS := Lib.hid hvs
      have HUT := Lib.hid hut
      clear hst hvs hut
      simp only [HST.out, Option.isSome_some, Option.getD_some]
      simp only [Option.getD_some] at HU HB2N
      obtain ⟨A', n', c', eq, hln', hm', hA'⟩ := HL.out
      injection eq with eq1 eq2 eq3
      subst eq2 eq3
      obtain ⟨b', o', xs, eA, hSb', hall, hcells⟩ := hA' (by omega)
      rw [eA] at eq1
      obtain ⟨rfl, rfl⟩ : b = b' ∧ o = o' := by simpa using eq1
      clear eq1 eA hA' hm' hln'
      have hxl : xs.length = v.kids.length * 6 := by rw [hall.len, List.length_map]; rfl
      have hbw : b < w2.heap.size := by omega
      have hSw2 : ∀ k, S k → k < w2.heap.size := fun k hk => by have := HSW.out k hk; omega
      have hkS : ∀ k, S k → w2.heap[k]? = w.heap[k]? := fun k hk => (HW2K.out k (HSW.out k hk) (HS.out k hk).2).trans (HBS.out k hk)
      have HONE : Hid (∀ u ∈ xs, u.oneCell' = true) := Lib.hid hall.one
      have HALL := Lib.hid hall
      have HCELLS := Lib.hid hcells
      have HXL := Lib.hid hxl
      have HKS := Lib.hid hkS
      have HSW2 := Lib.hid hSw2
      clear hall hcells hxl hkS hSw2
      have l1 : w.heap.size < w2.heap.size + 1 := by omega
      have l2 : w.heap.size < w2.heap.size + 1 + 1 := by omega
      have l3 : w.heap.size < w2.heap.size + 1 + 1 + 1 := by omega
      go_upto_region 9 with (fail)
      go_cut [] (fun wx => ∃ gg cap : Nat, wx.heap[w2.heap.size + 1]? = some (.cells #[.int .i64 kd, .int .i64 idn, .string nx, .string sa, .slice Aa na ca, .slice (some ⟨gg, 0, none⟩) v.kids.length cap] 65 (0, 0)) ∧ wx.heap[w2.heap.size]? = some (.cells #[.int .i64 y.tr.lab.kind, .int .i64 y.tr.lab.id, .string y.tr.lab.nm, .string s2, .slice A2 n2 c2, .slice B2 m2 d2] 65 (0, 0)) ∧
        wx.heap[w.heap.size + 1]? = some (.cells #[.int .i64 0, .int .i64 0, .string ⟨#[]⟩, .string ⟨#[]⟩, .slice none 0 0, .slice none 0 0] 65 (0, 0)) ∧ wx.ownsRow (w2.heap.size + 2) 65 6 (.slice (some ⟨gg, 0, none⟩) v.kids.length cap) v.kids.length xs ∧ w2.heap.size + 2 ≤ gg ∧ gg < wx.heap.size ∧ v.kids.length ≤ cap ∧ Below w2.heap.size w2 wx ∧ w2.heap.size + 2 ≤ wx.heap.size)
      case first =>
        go_wp2_with (at_builtin; refine wpList_append_lies _ ?h1 (.tmp 57) (.tmp 59) 63 ?h2 (w2.heap.size + 2) 65 i0 _ 6 96 ?h3 hi0 hz0 hz1 hz2 ?h4 ?h5 (.slice (some ⟨w2.heap.size + 1 + 1, 0, none⟩) 0 0) 0 [] ?h6 ?h7 ⟨b, o, none⟩ v.kids.length c xs ?h8 ?h9 ?h10 ?h11 ?h12 ?h13 ?h14 ?h15 (w2.heap.size + 3) ?h16 ?_)
        (first | (case h1 => rfl) | skip)
        (first | (case h2 => rfl) | skip)
        (first | (case h3 => exact Tryd.underlying63) | skip)
        (first | (case h4 => rfl) | skip)
        (first | (case h5 => omega) | skip)
        (first | (case h6 => rfl) | skip)
        case h7 => exact ownsRow_empty (by simp) (by simp)
        (first | (case h8 => rfl) | skip)
        (first | (case h9 => exact HXL.out) | skip)
        case h10 =>
          intro j u hj
          have := HCELLS.out j u hj
          (try rw [addr_none])
          refine (cell_keep (heap_old (by simp; omega) (heap_old (by simp; omega) (heap_old hbw (HKS.out b hSb)))) _).trans this
        (first | (case h11 => exact HONE.out) | skip)
        (first | (case h12 => omega) | skip)
        (first | (case h13 => unfold maxLen; omega) | skip)
        (first | (case h14 => omega) | skip)
        (first | (case h15 => simp) | skip)
        (first | (case h16 => simp) | skip)
        intro gg cap w3 hown3 hgrow hat hlt
        have z3 : w2.heap.size + 3 ≤ w3.heap.size := by have := hgrow.size; simpa using this
        have hbel : Below w2.heap.size w2 w3 := ((((Below.refl _ w2).alloc (Nat.le_refl _) _).alloc (by simp) _).alloc (by simp <;> omega) _).grown hgrow (by simp <;> omega) (fun k hk => by simp [Value.ownBlock] at hk; omega)
        have HBEL := Lib.hid hbel
        clear hbel
        have hgA : ∀ k, k < w2.heap.size + 2 → w3.heap[k]? = _ := fun k hk => hgrow.block k (by simp; omega) (by simp [Value.ownBlock]; omega)
        have h8 := (hgA (w2.heap.size + 1) (by omega)).trans (heap_old (by simp <;> omega) (heap_at (by simp)))
        have h6 := (hgA w2.heap.size (by omega)).trans (heap_old (by simp <;> omega) (heap_old (by simp) (heap_at rfl)))
        have hlow : ∀ k, k < w2.heap.size → w3.heap[k]? = w2.heap[k]? := fun k hk => (hgA k (by omega)).trans (heap_old (by simp; omega) (heap_old (by simp; omega) (heap_old hk rfl)))
        have hgg : w2.heap.size + 2 ≤ gg := by
          rcases hat with h | h
          · simp [Value.ownBlock] at h; omega
          · omega
        have HGA := Lib.hid hgA
        have HOWN3 := Lib.hid hown3
        have HGROW := Lib.hid hgrow
        have HAT := Lib.hid hat
        have HLOW := Lib.hid hlow
        clear hgA hown3 hgrow hat hlow
        have h8_0 := cv0 h8
        have h8_1 := cv1 h8
        have h8_2 := cv2 h8
        have h8_3 := cv3 h8
        have h8_4 := cv4 h8
        have h8_5 := cv5 h8
        have h8_f0 := free_heap h8 0
        have h8_f1 := free_heap h8 1
        have h8_f2 := free_heap h8 2
        have h8_f3 := free_heap h8 3
        have h8_f4 := free_heap h8 4
        have h8_f5 := free_heap h8 5
        have h8_l := lt_heap h8
        have H8 := Lib.hid h8
        clear h8
        have h6_0 := cv0 h6
        have h6_1 := cv1 h6
        have h6_2 := cv2 h6
        have h6_3 := cv3 h6
        have h6_4 := cv4 h6
        have h6_5 := cv5 h6
        have h6_l := lt_heap h6
        have H6 := Lib.hid h6
        clear h6
        go_wp2_with fail
        go_meet
        refine ⟨gg, cap, heap_set H8.out 5 _, heap_far _ (by omega) H6.out, heap_far _ (by omega) ((HLOW.out _ (by omega)).trans HR.out), ownsRow_far HOWN3.out (fun k hk => heap_far _ (by simp [Value.ownBlock] at hk; omega) rfl), hgg, by rw [size_set]; exact hlt, ownsRow_cap HOWN3.out, HBEL.out.setCell (by show w2.heap.size ≤ w2.heap.size + 1; omega) _, by rw [size_set]; omega⟩
      case rest =>
        obtain ⟨gg, cap, h8, h6, hr', hown, hgg, hgl, hcap, hbx, zx⟩ := hcut
        rename World => wx
        have hlow := fun (k : Nat) (hk : k < w2.heap.size) => hbx.block k hk
        have HBX := Lib.hid hbx
        clear hbx
        have ho : ∀ k, k < 6 → ∃ u, wx.cell? ⟨gg, j * 6 + k, none⟩ = some u := fun k hk => ⟨_, (hown.cellAt (j * 6 + k) (by omega)).trans (List.getElem?_eq_getElem (by have := HXL.out; omega))⟩
        obtain ⟨o0, g0⟩ := ho 0 (by omega)
        obtain ⟨o1, g1⟩ := ho 1 (by omega)
        obtain ⟨o2, g2⟩ := ho 2 (by omega)
        obtain ⟨o3, g3⟩ := ho 3 (by omega)
        obtain ⟨o4, g4⟩ := ho 4 (by omega)
        obtain ⟨o5, g5⟩ := ho 5 (by omega)
        have gf0 := hown.frozenAt (j * 6)
        have gf1 := hown.frozenAt (j * 6 + 1)
        have gf2 := hown.frozenAt (j * 6 + 2)
        have gf3 := hown.frozenAt (j * 6 + 3)
        have gf4 := hown.frozenAt (j * 6 + 4)
        have gf5 := hown.frozenAt (j * 6 + 5)
        rw [Nat.add_zero] at g0
        clear ht_0 ht_1 ht_2 ht_3 ht_4 ht_5 ht_l hr_0 hr_1 hr_2 hr_3 hr_4 hr_5 hr_f0 hr_f1 hr_f2 hr_f3 hr_f4 hr_f5 hr_l ho
        have HOWN := Lib.hid hown
        have HLOW := Lib.hid hlow
        have HRP := Lib.hid hr'
        clear hown hlow hr'
        have h8_0 := cv0 h8
        have h8_1 := cv1 h8
        have h8_2 := cv2 h8
        have h8_3 := cv3 h8
        have h8_4 := cv4 h8
        have h8_5 := cv5 h8
        have h8_l := lt_heap h8
        have H8 := Lib.hid h8
        clear h8
        have h6_0 := cv0 h6
        have h6_1 := cv1 h6
        have h6_2 := cv2 h6
        have h6_3 := cv3 h6
        have h6_4 := cv4 h6
        have h6_5 := cv5 h6
        have h6_l := lt_heap h6
        have H6 := Lib.hid h6
        clear h6
        have q2 : (j : Int) < (cap : Int) := by omega
        go_upto_region 10 with (fail)
        go_cut [] (fun wy => ∃ ys : List Value, wy.heap[w2.heap.size + 1]? = some (.cells #[.int .i64 kd, .int .i64 idn, .string nx, .string sa, .slice Aa na ca, .slice (some ⟨gg, 0, none⟩) v.kids.length cap] 65 (0, 0)) ∧
          wy.heap[w.heap.size + 1]? = some (.cells #[.int .i64 0, .int .i64 0, .string ⟨#[]⟩, .string ⟨#[]⟩, .slice none 0 0, .slice none 0 0] 65 (0, 0)) ∧ (∀ q u, ys[q]? = some u → wy.cell? ⟨gg, q, none⟩ = some u) ∧ nmRep.All wy (New S (w.heap.size + 2) wy) ((v.kids.set j y).map Nm.tr) ys ∧ gg < wy.heap.size ∧ Below w2.heap.size w2 wy)
        case first =>
          go_wp2_with fail
          go_meet
          have hS2 : ∀ k, k < w2.heap.size → ((((((wx.setCell ⟨gg, j * 6, none⟩ (.int .i64 y.tr.lab.kind)).setCell ⟨gg, j * 6 + 1, none⟩ (.int .i64 y.tr.lab.id)).setCell ⟨gg, j * 6 + 2, none⟩ (.string y.tr.lab.nm)).setCell ⟨gg, j * 6 + 3, none⟩ (.string s2)).setCell ⟨gg, j * 6 + 4, none⟩ (.slice A2 n2 c2)).setCell ⟨gg, j * 6 + 5, none⟩ (.slice B2 m2 d2)).heap[k]? = w2.heap[k]? := fun k hk =>
            heap_far _ (by omega) (heap_far _ (by omega) (heap_far _ (by omega) (heap_far _ (by omega) (heap_far _ (by omega) (heap_far _ (by omega) (HLOW.out k hk))))))
          have hfar : ∀ k o, k ≠ gg → wx.heap[k]? = o → ((((((wx.setCell ⟨gg, j * 6, none⟩ (.int .i64 y.tr.lab.kind)).setCell ⟨gg, j * 6 + 1, none⟩ (.int .i64 y.tr.lab.id)).setCell ⟨gg, j * 6 + 2, none⟩ (.string y.tr.lab.nm)).setCell ⟨gg, j * 6 + 3, none⟩ (.string s2)).setCell ⟨gg, j * 6 + 4, none⟩ (.slice A2 n2 c2)).setCell ⟨gg, j * 6 + 5, none⟩ (.slice B2 m2 d2)).heap[k]? = o := fun k o hk h =>
            heap_far _ hk (heap_far _ hk (heap_far _ hk (heap_far _ hk (heap_far _ hk (heap_far _ hk h)))))
          have hbx6 := (((((HBX.out.setCell (p := ⟨gg, j * 6, none⟩) (by show w2.heap.size ≤ gg; omega) (.int .i64 y.tr.lab.kind)).setCell (p := ⟨gg, j * 6 + 1, none⟩) (by show w2.heap.size ≤ gg; omega) (.int .i64 y.tr.lab.id)).setCell (p := ⟨gg, j * 6 + 2, none⟩) (by show w2.heap.size ≤ gg; omega) (.string y.tr.lab.nm)).setCell (p := ⟨gg, j * 6 + 3, none⟩) (by show w2.heap.size ≤ gg; omega) (.string s2)).setCell (p := ⟨gg, j * 6 + 4, none⟩) (by show w2.heap.size ≤ gg; omega) (.slice A2 n2 c2)).setCell (p := ⟨gg, j * 6 + 5, none⟩) (by show w2.heap.size ≤ gg; omega) (.slice B2 m2 d2)
          have hsz : ((((((wx.setCell ⟨gg, j * 6, none⟩ (.int .i64 y.tr.lab.kind)).setCell ⟨gg, j * 6 + 1, none⟩ (.int .i64 y.tr.lab.id)).setCell ⟨gg, j * 6 + 2, none⟩ (.string y.tr.lab.nm)).setCell ⟨gg, j * 6 + 3, none⟩ (.string s2)).setCell ⟨gg, j * 6 + 4, none⟩ (.slice A2 n2 c2)).setCell ⟨gg, j * 6 + 5, none⟩ (.slice B2 m2 d2)).heap.size = wx.heap.size := by simp only [size_set]
          refine ⟨xs.take (j * 6) ++ ([.int .i64 y.tr.lab.kind, .int .i64 y.tr.lab.id, .string y.tr.lab.nm, .string s2, .slice A2 n2 c2, .slice B2 m2 d2] ++ xs.drop (j * 6 + 6)), hfar _ _ (by omega) H8.out, hfar _ _ (by omega) HRP.out, ?_, ?_, by rw [hsz]; exact hgl, hbx6⟩
          · exact row_set6 (fun q u hq => (HOWN.out.cellAt q (by have := HXL.out; have := (List.getElem?_eq_some_iff.1 hq).1; omega)).trans hq) (by have := HXL.out; omega)
          · rw [List.map_set]
            refine Rep.All.set (ρ := nmRep) (k := j) (HALL.out.keep (fun k hk => (hS2 k (HSW2.out k hk)).trans (HKS.out k hk)) (fun k hk => Or.inl hk)) (by rw [List.length_map]; exact hjl) ?_
            refine nmRep.keep HU.out (fun k hk => hS2 k ?_) (fun k hk => ?_)
            · rcases hk with hk | hk
              · exact HSW2.out k hk
              · exact hk.2
            · exact hk.imp_right (fun h => ⟨by have := h.1; (try simp at this); omega, by rw [hsz]; have := h.2; omega⟩)
        case rest =>
          obtain ⟨ys, k8, kr, hcl, hal, hgl2, hby⟩ := hcut
          rename World => wy
          have hBy : Mods (· = bn) w.heap.size w wy := HB2.out.thenBelow (hby.mono (by omega))
          have hyS : ∀ k, S k → wy.heap[k]? = w.heap[k]? := fun k hk => (hby.block k (HSW2.out k hk)).trans (HKS.out k hk)
          have hyb := (hby.block bn (by omega)).trans HB2N.out
          have HYS := Lib.hid hyS
          have HYB := Lib.hid hyb
          clear hyS hyb
          have zy := hby.size
          clear h8_0 h8_1 h8_2 h8_3 h8_4 h8_5 h8_l h6_0 h6_1 h6_2 h6_3 h6_4 h6_5 h6_l g0 g1 g2 g3 g4 g5 gf0 gf1 gf2 gf3 gf4 gf5
          have HCL := Lib.hid hcl
          have HAL := Lib.hid hal
          have HBY := Lib.hid hby
          have HBY := Lib.hid hBy
          clear hcl hal hby hBy
          have k8_0 := cv0 k8
          have k8_1 := cv1 k8
          have k8_2 := cv2 k8
          have k8_3 := cv3 k8
          have k8_4 := cv4 k8
          have k8_5 := cv5 k8
          have k8_l := lt_heap k8
          have K8 := Lib.hid k8
          clear k8
          have kr_0 := cv0 kr
          have kr_1 := cv1 kr
          have kr_2 := cv2 kr
          have kr_3 := cv3 kr
          have kr_4 := cv4 kr
          have kr_5 := cv5 kr
          have kr_f0 := free_heap kr 0
          have kr_f1 := free_heap kr 1
          have kr_f2 := free_heap kr 2
          have kr_f3 := free_heap kr 3
          have kr_f4 := free_heap kr 4
          have kr_f5 := free_heap kr 5
          have kr_l := lt_heap kr
          have KR := Lib.hid kr
          clear kr
          go_wp2_with fail
          refine bodyPost_ret (v := .tuple #[.agg #[.int .i64 kd, .int .i64 idn, .string nx, .string sa, .slice Aa na ca, .slice (some ⟨gg, 0, none⟩) v.kids.length cap], .bool true]) (by simp [results, Tryd.results41, go_sem, kr_0, kr_1, kr_2, kr_3, kr_4, kr_5, kr_l]) rfl ?_
          unfold ContractAt
          rw [HVS.out]
          refine ⟨_, rfl, ?_, far6 (by omega) HYB.out, mods6 HBY.out (by omega)⟩
          simp only [Option.getD_some]
          rw [HUT.out]
          refine Nt.shut (a := ⟨kd, idn, nx, ty⟩) HNM.out (Ty.In_keep (fun k hk => far6 (by have := HS.out k hk; omega) (HYS.out k hk)) (fun k hk => Or.inl hk) _ _ _ HTY.out) ?_
          refine ⟨_, v.kids.length, cap, rfl, by simp, by simp [maxLen]; omega, fun _ => ⟨gg, 0, ys, rfl, Or.inr ⟨by omega, lt6 hgl2⟩, HAL.out.keep (fun k hk => far6 ?_ rfl) (fun k hk => hk.imp_right (fun h => ⟨by have := h.1; omega, lt6 h.2⟩)), fun q u hq => ?_⟩⟩
          · rcases hk with hk | hk
            · have := HS.out k hk; omega
            · have := hk.1; omega
          · rw [Nat.zero_add]
            exact (cell_keep (far6 (by omega) rfl) q).trans (HCL.out q u hq)


theorem Nm.of_nodes {v : Tv} (hok : v.ok 0) : (Nm.of v [] 0).1.nodes = v.nodes := by
  have h := (Nm.of_tv v [] 0 hok List.nodup_nil (by simp)).1
  rw [← Nm.tv_nodes _ [], h]
theorem step_of {v : Tv} (hok : v.ok 0) : ((Nm.of v [] 0).1.contract (Nm.of v [] 0).2).isSome = v.step.isSome ∧ (((Nm.of v [] 0).1.contract (Nm.of v [] 0).2).getD ((Nm.of v [] 0).1, (Nm.of v [] 0).2)).1.tv [] = v.step.getD v := by
  obtain ⟨h1, h2, _⟩ := Nm.of_tv v [] 0 hok List.nodup_nil (by simp)
  have h3 := Nm.contract_tv (Nm.of v [] 0).1 [] (Nm.of v [] 0).2 h2 (by simp)
  rw [h1] at h3
  cases hc : (Nm.of v [] 0).1.contract (Nm.of v [] 0).2 with
  | none =>
    rw [hc] at h3
    have h3 : v.step = none := h3
    rw [h3]
    exact ⟨rfl, h1⟩
  | some r =>
    rw [hc] at h3
    obtain ⟨h3, _, _⟩ : _ ∧ _ ∧ _ := h3
    rw [h3]
    exact ⟨rfl, rfl⟩

set_option maxRecDepth 100000 in
set_option maxHeartbeats 4000000 in
theorem refStepOf_any (v : Tv) (cs : List Value) (w : World) (S : Nat → Prop) (hok : v.ok 0) (hn : v.nodes ≤ 200) (h : tmRep.R w S v.tm cs) (hS : ∀ b, S b → b < w.heap.size) :
    Calls Tryd.prog 16 #[.agg cs.toArray] w (StepAt v w S) := by
  obtain ⟨s0, A0, n0, c0, B0, m0, d0, rfl, _, _⟩ := Tm.shape h
  have hso := step_of hok
  have hnx := Nm.of_nodes hok
  have hle := Nm.of_le v [] 0
  have hst : (v.step.getD v).nodes ≤ 40000 := by
    cases hs : v.step with
    | none => simp; omega
    | some u =>
      have h1 := Tv.step_nodes _ _ hs
      have h2 := Nat.mul_le_mul hn hn
      simp; omega
  have hna := fun (o p q : Obj) (hq : q = .cells #[.int .i64 0] 3) => Lib.hid (names_any v.nodes v [] 0 [.int .i64 v.tm.lab.kind, .string v.tm.lab.nm, .int .i64 v.tm.lab.ix, .string s0, .slice A0 n0 c0, .slice B0 m0 d0] (.slice none 0 0) (((w.alloc o).alloc p).alloc q) S (fun _ => False) (w.heap.size + 1 + 1) (Nat.le_refl _) hok (by omega) (by simp; omega)
    (tmRep.keep h (fun k hk => heap_old (by have := hS k hk; simp; omega) (heap_old (by have := hS k hk; simp; omega) (heap_old (hS k hk) rfl))) (fun _ h => h)) Rep.Sl.nil (fun k hk => ⟨by have := hS k hk; simp; omega, by have := hS k hk; omega⟩) (fun _ h => h.elim) (by subst hq; exact heap_at (by simp)))
  generalize hX : (Nm.of v [] 0).1 = x at *
  generalize hN : (Nm.of v [] 0).2 = n at *
  have HXX := Lib.hid hX
  have HNN := Lib.hid hN
  clear hX hN h
  have HS := Lib.hid hS
  have HNA := Lib.hid hna
  have HSO := Lib.hid hso
  have HOK := Lib.hid hok
  clear hS hna hso hok
  go_enter Tryd.func16, Tryd.ntmps16
  go_wp2_with fail
  (with_reducible refine (HNA.out _ _ _ rfl).out.mono ?_)
  unfold NamesAt
  rw [HXX.out, HNN.out]
  rintro e w1 ⟨es, rfl, hu, hb1, hm1⟩
  obtain ⟨s1, A1, n1, c1, B1, m1, d1, rfl, _, _⟩ := Nt.shape hu
  have z1 : w.heap.size + 3 ≤ w1.heap.size := by have := hm1.size; simpa using this
  have p0 := (hm1.block w.heap.size (by simp; omega) (by omega)).trans (heap_old (by simp <;> omega) (heap_old (by simp) (heap_at rfl)))
  have p1 := (hm1.block (w.heap.size + 1) (by simp <;> omega) (by omega)).trans (heap_old (by simp) (heap_at (by simp)))
  have hmw : Mods (· = w.heap.size + 1 + 1) w.heap.size w w1 := (Mods.below (by go_grown : Below w.heap.size w (((w.alloc _).alloc _).alloc _))).trans (hm1.mono (by simp; omega))
  have hu' : nmRep.R w1 (fun k => S k ∨ (w.heap.size + 3 ≤ k ∧ k < w1.heap.size)) x.tr [.int .i64 x.tr.lab.kind, .int .i64 x.tr.lab.id, .string x.tr.lab.nm, .string s1, .slice A1 n1 c1, .slice B1 m1 d1] := nmRep.keep hu (fun _ _ => rfl) (fun k hk => hk.imp_right (fun hk => by have := hk.1; simp at this; exact ⟨by omega, hk.2⟩))
  have hxx : n + x.nodes * x.nodes ≤ 1000000000000 := by
    have h2 := Nat.mul_le_mul (show x.nodes ≤ 200 by omega) (show x.nodes ≤ 200 by omega)
    omega
  have hco := Lib.hid (contract_any x.nodes x n [.int .i64 x.tr.lab.kind, .int .i64 x.tr.lab.id, .string x.tr.lab.nm, .string s1, .slice A1 n1 c1, .slice B1 m1 d1] w1 (fun k => S k ∨ (w.heap.size + 3 ≤ k ∧ k < w1.heap.size)) (w.heap.size + 1 + 1) (Nat.le_refl _) hxx (by omega) hu' (fun k hk => by
    rcases hk with hk | hk
    · have := HS.out k hk; exact ⟨by omega, by omega⟩
    · exact ⟨hk.2, by omega⟩) hb1)
  clear hu hu' hxx
  have HM1 := Lib.hid hm1
  have HMW := Lib.hid hmw
  have HCO := Lib.hid hco
  have HB1 := Lib.hid hb1
  clear hm1 hmw hco hb1
  have p0_0 := cv0 p0
  have p0_1 := cv1 p0
  have p0_2 := cv2 p0
  have p0_3 := cv3 p0
  have p0_4 := cv4 p0
  have p0_5 := cv5 p0
  have p0_l := lt_heap p0
  have P0 := Lib.hid p0
  clear p0
  have p1_0 := cv0 p1
  have p1_1 := cv1 p1
  have p1_2 := cv2 p1
  have p1_3 := cv3 p1
  have p1_4 := cv4 p1
  have p1_5 := cv5 p1
  have p1_f0 := free_heap p1 0
  have p1_f1 := free_heap p1 1
  have p1_f2 := free_heap p1 2
  have p1_f3 := free_heap p1 3
  have p1_f4 := free_heap p1 4
  have p1_f5 := free_heap p1 5
  have p1_l := lt_heap p1
  have P1 := Lib.hid p1
  clear p1
  go_wp2_with fail
  (with_reducible refine HCO.out.out.mono ?_)
  unfold ContractAt
  rw [HSO.out.1]
  generalize hY : ((x.contract n).getD (x, n)).1 = y at *
  have HYY := Lib.hid hY
  clear hY
  rintro e w2 ⟨es, rfl, hu, hb2, hm2⟩
  obtain ⟨s2, A2, n2, c2, B2, m2, d2, rfl, _, _⟩ := Nt.shape hu
  have z2 : w1.heap.size ≤ w2.heap.size := hm2.size
  have hyt : y.tv [] = v.step.getD v := HSO.out.2
  have hyn : y.nodes ≤ 40000 := by rw [← Nm.tv_nodes y [], hyt]; exact hst
  have p1 := (hm2.block (w.heap.size + 1) (by omega) (by omega)).trans P1.out
  have hmw2 : Mods (· = w.heap.size + 1 + 1) w.heap.size w w2 := HMW.out.trans (hm2.mono (by omega))
  have hu' : nmRep.R w2 (fun k => S k ∨ (w.heap.size + 3 ≤ k ∧ k < w2.heap.size)) y.tr [.int .i64 y.tr.lab.kind, .int .i64 y.tr.lab.id, .string y.tr.lab.nm, .string s2, .slice A2 n2 c2, .slice B2 m2 d2] := nmRep.keep hu (fun _ _ => rfl) (fun k hk => by
    rcases hk with (hk | hk) | hk
    · exact Or.inl hk
    · exact Or.inr ⟨hk.1, by omega⟩
    · exact Or.inr ⟨by have := hk.1; omega, hk.2⟩)
  have hs2 : ∀ k, (S k ∨ (w.heap.size + 3 ≤ k ∧ k < w2.heap.size)) → k < w2.heap.size := fun k hk => by
    rcases hk with hk | hk
    · have := HS.out k hk; omega
    · exact hk.2
  have hba := fun (o : Obj) => Lib.hid (back_any y.nodes y [] [.int .i64 y.tr.lab.kind, .int .i64 y.tr.lab.id, .string y.tr.lab.nm, .string s2, .slice A2 n2 c2, .slice B2 m2 d2] (.slice none 0 0) (w2.alloc o) (fun k => S k ∨ (w.heap.size + 3 ≤ k ∧ k < w2.heap.size)) (fun _ => False) (Nat.le_refl _) (by simp; omega) (nmRep.keep hu' (fun k hk => heap_old (hs2 k hk) rfl) (fun _ h => h)) Rep.Sl.nil (fun k hk => by have := hs2 k hk; simp; omega) (fun _ h => h.elim))
  clear hu hu' hs2 p0_0 p0_1 p0_2 p0_3 p0_4 p0_5 p0_l p1_0 p1_1 p1_2 p1_3 p1_4 p1_5 p1_f0 p1_f1 p1_f2 p1_f3 p1_f4 p1_f5 p1_l hst
  generalize hOK : v.step.isSome = ok at *
  have HOKK := Lib.hid hOK
  clear hOK
  have HM2 := Lib.hid hm2
  have HMW2 := Lib.hid hmw2
  have HBA := Lib.hid hba
  have HYT := Lib.hid hyt
  clear hm2 hmw2 hba hyt
  have p1_0 := cv0 p1
  have p1_1 := cv1 p1
  have p1_2 := cv2 p1
  have p1_3 := cv3 p1
  have p1_4 := cv4 p1
  have p1_5 := cv5 p1
  have p1_f0 := free_heap p1 0
  have p1_f1 := free_heap p1 1
  have p1_f2 := free_heap p1 2
  have p1_f3 := free_heap p1 3
  have p1_f4 := free_heap p1 4
  have p1_f5 := free_heap p1 5
  have p1_l := lt_heap p1
  have P1 := Lib.hid p1
  clear p1
  go_wp2_with fail
  (with_reducible refine (HBA.out _).out.mono ?_)
  unfold BackAt
  rw [HYT.out]
  rintro e w3 ⟨es, rfl, hu, hw3⟩
  obtain ⟨s3, A3, n3, c3, B3, m3, d3, rfl, _, _⟩ := Tm.shape hu
  have z3 : w2.heap.size + 1 ≤ w3.heap.size := by have := hw3.size; simpa using this
  have p1 := (hw3.block (w.heap.size + 1) (by simp; omega)).trans (heap_old p1_l P1.out)
  have hB3 : Mods (· = w.heap.size + 1 + 1) w.heap.size w w3 := (HMW2.out.alloc (by omega) _).thenBelow (hw3.mono (by simp; omega))
  clear p1_0 p1_1 p1_2 p1_3 p1_4 p1_5 p1_f0 p1_f1 p1_f2 p1_f3 p1_f4 p1_f5 p1_l
  have HU := Lib.hid hu
  have HB3 := Lib.hid hB3
  have HW3 := Lib.hid hw3
  clear hu hB3 hw3
  have p1_0 := cv0 p1
  have p1_1 := cv1 p1
  have p1_2 := cv2 p1
  have p1_3 := cv3 p1
  have p1_4 := cv4 p1
  have p1_5 := cv5 p1
  have p1_f0 := free_heap p1 0
  have p1_f1 := free_heap p1 1
  have p1_f2 := free_heap p1 2
  have p1_f3 := free_heap p1 3
  have p1_f4 := free_heap p1 4
  have p1_f5 := free_heap p1 5
  have p1_l := lt_heap p1
  have P1 := Lib.hid p1
  clear p1
  go_wp2_with fail
  refine bodyPost_ret (v := .tuple #[.agg #[.int .i64 (v.step.getD v).tm.lab.kind, .string (v.step.getD v).tm.lab.nm, .int .i64 (v.step.getD v).tm.lab.ix, .string s3, .slice A3 n3 c3, .slice B3 m3 d3], .bool ok]) (by simp [results, Tryd.results16, go_sem, p1_0, p1_1, p1_2, p1_3, p1_4, p1_5, p1_l]) rfl ?_
  unfold StepAt
  rw [HOKK.out]
  refine ⟨_, rfl, ?_, (mods6 HB3.out (by omega)).toBelow (fun k hk => by have h2 : k = w.heap.size + 1 + 1 := hk; omega)⟩
  refine tmRep.keep HU.out (fun k hk => far6 ?_ rfl) (fun k hk => ?_)
  · rcases hk with (hk | hk) | hk
    · have := HS.out k hk; omega
    · omega
    · have := hk.1; simp at this; omega
  · rcases hk with (hk | hk) | hk
    · exact Or.inl hk
    · exact Or.inr ⟨by omega, lt6 (by omega)⟩
    · exact Or.inr ⟨by have := hk.1; simp at this; omega, lt6 hk.2⟩

end Go.Proofs.YthflahcnkhmpaabDoor
