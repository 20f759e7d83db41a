/-
  FormRead by parts: the inner loop: behind the append.
-/
import Derived.Test.YtnoceodmnjhljabDoorFrE
import Derived.Deep.DeepCutAuto
import Derived.Deep.RegionLaw
import Derived.BigQuiet
namespace Go.Proofs.YtnoceodmnjhljabDoor
open Go Go.RowKit
set_option linter.unusedSimpArgs false
set_option linter.unusedVariables false

noncomputable def c_fr_f363o : Code := sub [1, 1, 1, 1, 1, 0, 0, 0, 1, 1, 1, 1, 1, 1, 1, 1, 0, 0, 0, 1, 1, 1, 0] (Tryd.f12.body.getD .skip)
set_option maxRecDepth 1000000 in
set_option maxHeartbeats 16000000 in
theorem fr_f363o_wp {Q : Exit → Act → World → Prop} {x : ByteArray} {w wr : World} {i n : Nat} {f : Ff} {r : List F5} {g cq D lo h cap : Nat} {v : Fv} {dc : List Value} {v' : Fv} (hdc : dc = [dc.getD 0 undef, dc.getD 1 undef, dc.getD 2 undef, dc.getD 3 undef]) (hc : f.closed = false) (hp : TopF w wr f r g cq D lo h cap v dc f.kind) (hv : v'.fm = .mk ⟨f.kind, f.nm, []⟩ (f.kids ++ [v.fm])) (hN : ∀ dc' a' wx, Frm 464 [(0, .string x), (2, .pointer (some ⟨w.heap.size, 0, none⟩)), (3, .pointer (some ⟨w.heap.size + 1, 0, none⟩)), (4, .pointer (some ⟨w.heap.size + 2, 0, none⟩)), (5, .slice (some ⟨g, 0, none⟩) r.length cq), (6, .int .i64 (i : Nat)), (7, .int .i64 (n : Nat)), (9, .pointer (some ⟨D, 0, none⟩))] a' → PopF w wx r (some ⟨g, 0, none⟩) cq D lo v' dc' → Q (.exit 5) a' wx) : ∀ ac, Frm 464 [(0, .string x), (2, .pointer (some ⟨w.heap.size, 0, none⟩)), (3, .pointer (some ⟨w.heap.size + 1, 0, none⟩)), (4, .pointer (some ⟨w.heap.size + 2, 0, none⟩)), (5, .slice (some ⟨g, 0, none⟩) (r.length + 1) cq), (6, .int .i64 (i : Nat)), (7, .int .i64 (n : Nat)), (9, .pointer (some ⟨D, 0, none⟩)), (23, .int .i64 (r.length : Nat))] ac → Code.wp Tryd.prog c_fr_f363o Q ac wr := by
  refine frm_open ?_
  refine frame_fr ?_
  intros
  rename_i hq
  obtain ⟨-, -, e0q, e1q, e2q, e3q, e4q, e5q, e6q, e7q, e8q, -⟩ := hq
  have e0q := (Option.some.inj e0q).symm; subst e0q
  have e1q := (Option.some.inj e1q).symm; subst e1q
  have e2q := (Option.some.inj e2q).symm; subst e2q
  have e3q := (Option.some.inj e3q).symm; subst e3q
  have e4q := (Option.some.inj e4q).symm; subst e4q
  have e5q := (Option.some.inj e5q).symm; subst e5q
  have e6q := (Option.some.inj e6q).symm; subst e6q
  have e7q := (Option.some.inj e7q).symm; subst e7q
  have e8q := (Option.some.inj e8q).symm; subst e8q
  conv => arg 2; whnf
  have HN := Lib.hid hN
  clear hN
  have hbz := GsOk.base hp.fs
  have hst := hp.st
  have hgd := hp.gl
  have hDl := hp.dl
  have hpll := hp.ll
  have hh2 := hp.h2
  have hgw := hp.gw
  obtain ⟨pz, pf, pn⟩ := hp.z
  have pd := hp.d
  have hB := hp.B
  have wgl : g < wr.heap.size := by omega
  have y0 : wr.cell? ⟨g, r.length * 5, none⟩ = some (.int .i64 (f.kind : Nat)) := (hst.cellAt (r.length * 5) (by omega)).trans (snocAt (j := 0) (f5Cells_len r))
  have y1 : wr.cell? ⟨g, r.length * 5 + 1, none⟩ = some (.string f.nm) := (hst.cellAt (r.length * 5 + 1) (by omega)).trans (snocAt (j := 1) (f5Cells_len r))
  have y2 : wr.cell? ⟨g, r.length * 5 + 2, none⟩ = some (.slice none 0 0) := (hst.cellAt (r.length * 5 + 2) (by omega)).trans (snocAt (j := 2) (f5Cells_len r))
  have y3 : wr.cell? ⟨g, r.length * 5 + 3, none⟩ = some (.slice (some ⟨h, 0, none⟩) (f.kids.length + 1) cap) := (hst.cellAt (r.length * 5 + 3) (by omega)).trans (snocAt (j := 3) (f5Cells_len r))
  have y4 : wr.cell? ⟨g, r.length * 5 + 4, none⟩ = some (.bool f.closed) := (hst.cellAt (r.length * 5 + 4) (by omega)).trans (snocAt (j := 4) (f5Cells_len r))
  have yf0 := hst.frozenAt (r.length * 5)
  have q9 : (r.length : Int) ≤ (cq : Int) := by
    rcases hst.2 with ⟨h2, _⟩ | ⟨b1, c1, cu1, e1, _, q1, hcc, _⟩
    · cases h2
    · simp only [Value.slice.injEq] at e1
      omega
  have q5 : (0 : Int) ≤ (r.length : Int) := by omega
  have q6 : (r.length : Int) < (r.length : Int) + 1 := by omega
  have q10 : (r.length : Int) ≤ (r.length : Int) + 1 := by omega
  obtain ⟨e0, e1, e2, e3, rfl⟩ : ∃ e0 e1 e2 e3, dc = [e0, e1, e2, e3] := ⟨_, _, _, _, hdc⟩
  have HP := Lib.hid hp
  have HST := Lib.hid hst
  have HB := Lib.hid hB
  clear hst hB
  clear hp
  have pz_0 := cv0 pz
  have pz_1 := cv1 pz
  have pz_2 := cv2 pz
  have pz_3 := cv3 pz
  have pz_f0 := free_heap pz 0
  have pz_f1 := free_heap pz 1
  have pz_f2 := free_heap pz 2
  have pz_f3 := free_heap pz 3
  have pz_l := lt_heap pz
  have PZ := Lib.hid pz
  clear pz
  have pf_0 := cv0 pf
  have pf_1 := cv1 pf
  have pf_f0 := free_heap pf 0
  have pf_f1 := free_heap pf 1
  have pf_l := lt_heap pf
  have PF := Lib.hid pf
  clear pf
  have pn_0 := cv0 pn
  have pn_1 := cv1 pn
  have pn_2 := cv2 pn
  have pn_3 := cv3 pn
  have pn_l := lt_heap pn
  have PN := Lib.hid pn
  clear pn
  have pd_0 := cv0 pd
  have pd_1 := cv1 pd
  have pd_2 := cv2 pd
  have pd_3 := cv3 pd
  have pd_f0 := free_heap pd 0
  have pd_f1 := free_heap pd 1
  have pd_f2 := free_heap pd 2
  have pd_f3 := free_heap pd 3
  have pd_l := lt_heap pd
  have PD := Lib.hid pd
  clear pd
  have hcl := hc
  rw [hcl] at y4
  clear hcl
  go_wp2_with fail
  refine gen_last (fun wx => PopF w wx r (some ⟨g, 0, none⟩) cq D lo v' [.int .i64 (f.kind : Nat), .string f.nm, .slice none 0 0, .slice (some ⟨h, 0, none⟩) (f.kids.length + 1) cap]) ?_ (fun wx h9 => by exact HN.out _ _ wx (id ⟨rfl, rfl, rfl, rfl, rfl, rfl, rfl, rfl, rfl, rfl, trivial⟩) h9)
  exact HP.out.close hv
noncomputable def c_fr_f363c : Code := sub [1, 1, 1, 1, 1, 0, 0, 0, 1, 1, 1, 1, 1, 1, 1, 1, 0, 0, 0, 1, 1, 1, 0] (Tryd.f12.body.getD .skip)
set_option maxRecDepth 1000000 in
set_option maxHeartbeats 16000000 in
theorem fr_f363c_wp {Q : Exit → Act → World → Prop} {x : ByteArray} {w wr : World} {i n : Nat} {f : Ff} {r : List F5} {g cq D lo h cap kd : Nat} {v : Fv} {dc : List Value} (hdc : dc = [dc.getD 0 undef, dc.getD 1 undef, dc.getD 2 undef, dc.getD 3 undef]) (hc : f.closed = true) (hp : TopF w wr f r g cq D lo h cap v dc kd) (hN : ∀ a', Frm 464 [(0, .string x), (2, .pointer (some ⟨w.heap.size, 0, none⟩)), (3, .pointer (some ⟨w.heap.size + 1, 0, none⟩)), (4, .pointer (some ⟨w.heap.size + 2, 0, none⟩)), (5, .slice (some ⟨g, 0, none⟩) (r.length + 1) cq), (6, .int .i64 (i : Nat)), (7, .int .i64 (n : Nat)), (9, .pointer (some ⟨D, 0, none⟩)), (23, .int .i64 (r.length : Nat))] a' → Q .normal a' wr) : ∀ ac, Frm 464 [(0, .string x), (2, .pointer (some ⟨w.heap.size, 0, none⟩)), (3, .pointer (some ⟨w.heap.size + 1, 0, none⟩)), (4, .pointer (some ⟨w.heap.size + 2, 0, none⟩)), (5, .slice (some ⟨g, 0, none⟩) (r.length + 1) cq), (6, .int .i64 (i : Nat)), (7, .int .i64 (n : Nat)), (9, .pointer (some ⟨D, 0, none⟩)), (23, .int .i64 (r.length : Nat))] ac → Code.wp Tryd.prog c_fr_f363c Q ac wr := by
  refine frm_open ?_
  refine frame_fr ?_
  intros
  rename_i hq
  obtain ⟨-, -, e0q, e1q, e2q, e3q, e4q, e5q, e6q, e7q, e8q, -⟩ := hq
  have e0q := (Option.some.inj e0q).symm; subst e0q
  have e1q := (Option.some.inj e1q).symm; subst e1q
  have e2q := (Option.some.inj e2q).symm; subst e2q
  have e3q := (Option.some.inj e3q).symm; subst e3q
  have e4q := (Option.some.inj e4q).symm; subst e4q
  have e5q := (Option.some.inj e5q).symm; subst e5q
  have e6q := (Option.some.inj e6q).symm; subst e6q
  have e7q := (Option.some.inj e7q).symm; subst e7q
  have e8q := (Option.some.inj e8q).symm; subst e8q
  conv => arg 2; whnf
  have HN := Lib.hid hN
  clear hN
  have hbz := GsOk.base hp.fs
  have hst := hp.st
  have hgd := hp.gl
  have hDl := hp.dl
  have hpll := hp.ll
  have hh2 := hp.h2
  have hgw := hp.gw
  obtain ⟨pz, pf, pn⟩ := hp.z
  have pd := hp.d
  have hB := hp.B
  have wgl : g < wr.heap.size := by omega
  have y0 : wr.cell? ⟨g, r.length * 5, none⟩ = some (.int .i64 (kd : Nat)) := (hst.cellAt (r.length * 5) (by omega)).trans (snocAt (j := 0) (f5Cells_len r))
  have y1 : wr.cell? ⟨g, r.length * 5 + 1, none⟩ = some (.string f.nm) := (hst.cellAt (r.length * 5 + 1) (by omega)).trans (snocAt (j := 1) (f5Cells_len r))
  have y2 : wr.cell? ⟨g, r.length * 5 + 2, none⟩ = some (.slice none 0 0) := (hst.cellAt (r.length * 5 + 2) (by omega)).trans (snocAt (j := 2) (f5Cells_len r))
  have y3 : wr.cell? ⟨g, r.length * 5 + 3, none⟩ = some (.slice (some ⟨h, 0, none⟩) (f.kids.length + 1) cap) := (hst.cellAt (r.length * 5 + 3) (by omega)).trans (snocAt (j := 3) (f5Cells_len r))
  have y4 : wr.cell? ⟨g, r.length * 5 + 4, none⟩ = some (.bool f.closed) := (hst.cellAt (r.length * 5 + 4) (by omega)).trans (snocAt (j := 4) (f5Cells_len r))
  have yf0 := hst.frozenAt (r.length * 5)
  have q9 : (r.length : Int) ≤ (cq : Int) := by
    rcases hst.2 with ⟨h2, _⟩ | ⟨b1, c1, cu1, e1, _, q1, hcc, _⟩
    · cases h2
    · simp only [Value.slice.injEq] at e1
      omega
  have q5 : (0 : Int) ≤ (r.length : Int) := by omega
  have q6 : (r.length : Int) < (r.length : Int) + 1 := by omega
  have q10 : (r.length : Int) ≤ (r.length : Int) + 1 := by omega
  obtain ⟨e0, e1, e2, e3, rfl⟩ : ∃ e0 e1 e2 e3, dc = [e0, e1, e2, e3] := ⟨_, _, _, _, hdc⟩
  have HP := Lib.hid hp
  have HST := Lib.hid hst
  have HB := Lib.hid hB
  clear hst hB
  clear hp
  have pz_0 := cv0 pz
  have pz_1 := cv1 pz
  have pz_2 := cv2 pz
  have pz_3 := cv3 pz
  have pz_f0 := free_heap pz 0
  have pz_f1 := free_heap pz 1
  have pz_f2 := free_heap pz 2
  have pz_f3 := free_heap pz 3
  have pz_l := lt_heap pz
  have PZ := Lib.hid pz
  clear pz
  have pf_0 := cv0 pf
  have pf_1 := cv1 pf
  have pf_f0 := free_heap pf 0
  have pf_f1 := free_heap pf 1
  have pf_l := lt_heap pf
  have PF := Lib.hid pf
  clear pf
  have pn_0 := cv0 pn
  have pn_1 := cv1 pn
  have pn_2 := cv2 pn
  have pn_3 := cv3 pn
  have pn_l := lt_heap pn
  have PN := Lib.hid pn
  clear pn
  have pd_0 := cv0 pd
  have pd_1 := cv1 pd
  have pd_2 := cv2 pd
  have pd_3 := cv3 pd
  have pd_f0 := free_heap pd 0
  have pd_f1 := free_heap pd 1
  have pd_f2 := free_heap pd 2
  have pd_f3 := free_heap pd 3
  have pd_l := lt_heap pd
  have PD := Lib.hid pd
  clear pd
  rw [hc] at y4
  go_wp2_with fail
  exact HN.out _ (id ⟨rfl, rfl, rfl, rfl, rfl, rfl, rfl, rfl, rfl, rfl, rfl, trivial⟩)
noncomputable def c_fr_f80 : Code := sub [1, 1, 1, 1, 1, 0, 0, 0, 1, 1, 1, 1, 1, 1, 1, 1, 0, 0, 0, 1, 1, 1, 1, 0, 0] (Tryd.f12.body.getD .skip)
set_option maxRecDepth 1000000 in
set_option maxHeartbeats 16000000 in
theorem fr_f80_wp {Q : Exit → Act → World → Prop} {x : ByteArray} {w wr : World} {i n : Nat} {f : Ff} {r : List F5} {g cq D lo h cap kd : Nat} {v : Fv} {dc : List Value} (hdc : dc = [dc.getD 0 undef, dc.getD 1 undef, dc.getD 2 undef, dc.getD 3 undef]) (hp : TopF w wr f r g cq D lo h cap v dc kd) (hN : ∀ a', Frm 464 [(0, .string x), (2, .pointer (some ⟨w.heap.size, 0, none⟩)), (3, .pointer (some ⟨w.heap.size + 1, 0, none⟩)), (4, .pointer (some ⟨w.heap.size + 2, 0, none⟩)), (5, .slice (some ⟨g, 0, none⟩) (r.length + 1) cq), (6, .int .i64 (i : Nat)), (7, .int .i64 (n : Nat)), (9, .pointer (some ⟨D, 0, none⟩)), (23, .int .i64 (r.length : Nat)), (379, .bool (decide (f.kids.length = 0)))] a' → Q .normal a' wr) : ∀ ac, Frm 464 [(0, .string x), (2, .pointer (some ⟨w.heap.size, 0, none⟩)), (3, .pointer (some ⟨w.heap.size + 1, 0, none⟩)), (4, .pointer (some ⟨w.heap.size + 2, 0, none⟩)), (5, .slice (some ⟨g, 0, none⟩) (r.length + 1) cq), (6, .int .i64 (i : Nat)), (7, .int .i64 (n : Nat)), (9, .pointer (some ⟨D, 0, none⟩)), (23, .int .i64 (r.length : Nat))] ac → Code.wp Tryd.prog c_fr_f80 Q ac wr := by
  refine frm_open ?_
  refine frame_fr ?_
  intros
  rename_i hq
  obtain ⟨-, -, e0q, e1q, e2q, e3q, e4q, e5q, e6q, e7q, e8q, -⟩ := hq
  have e0q := (Option.some.inj e0q).symm; subst e0q
  have e1q := (Option.some.inj e1q).symm; subst e1q
  have e2q := (Option.some.inj e2q).symm; subst e2q
  have e3q := (Option.some.inj e3q).symm; subst e3q
  have e4q := (Option.some.inj e4q).symm; subst e4q
  have e5q := (Option.some.inj e5q).symm; subst e5q
  have e6q := (Option.some.inj e6q).symm; subst e6q
  have e7q := (Option.some.inj e7q).symm; subst e7q
  have e8q := (Option.some.inj e8q).symm; subst e8q
  conv => arg 2; whnf
  have HN := Lib.hid hN
  clear hN
  have hbz := GsOk.base hp.fs
  have hst := hp.st
  have hgd := hp.gl
  have hDl := hp.dl
  have hpll := hp.ll
  have hh2 := hp.h2
  have hgw := hp.gw
  obtain ⟨pz, pf, pn⟩ := hp.z
  have pd := hp.d
  have hB := hp.B
  have wgl : g < wr.heap.size := by omega
  have y0 : wr.cell? ⟨g, r.length * 5, none⟩ = some (.int .i64 (kd : Nat)) := (hst.cellAt (r.length * 5) (by omega)).trans (snocAt (j := 0) (f5Cells_len r))
  have y1 : wr.cell? ⟨g, r.length * 5 + 1, none⟩ = some (.string f.nm) := (hst.cellAt (r.length * 5 + 1) (by omega)).trans (snocAt (j := 1) (f5Cells_len r))
  have y2 : wr.cell? ⟨g, r.length * 5 + 2, none⟩ = some (.slice none 0 0) := (hst.cellAt (r.length * 5 + 2) (by omega)).trans (snocAt (j := 2) (f5Cells_len r))
  have y3 : wr.cell? ⟨g, r.length * 5 + 3, none⟩ = some (.slice (some ⟨h, 0, none⟩) (f.kids.length + 1) cap) := (hst.cellAt (r.length * 5 + 3) (by omega)).trans (snocAt (j := 3) (f5Cells_len r))
  have y4 : wr.cell? ⟨g, r.length * 5 + 4, none⟩ = some (.bool f.closed) := (hst.cellAt (r.length * 5 + 4) (by omega)).trans (snocAt (j := 4) (f5Cells_len r))
  have yf0 := hst.frozenAt (r.length * 5)
  have q9 : (r.length : Int) ≤ (cq : Int) := by
    rcases hst.2 with ⟨h2, _⟩ | ⟨b1, c1, cu1, e1, _, q1, hcc, _⟩
    · cases h2
    · simp only [Value.slice.injEq] at e1
      omega
  have q5 : (0 : Int) ≤ (r.length : Int) := by omega
  have q6 : (r.length : Int) < (r.length : Int) + 1 := by omega
  have q10 : (r.length : Int) ≤ (r.length : Int) + 1 := by omega
  obtain ⟨e0, e1, e2, e3, rfl⟩ : ∃ e0 e1 e2 e3, dc = [e0, e1, e2, e3] := ⟨_, _, _, _, hdc⟩
  have HP := Lib.hid hp
  have HST := Lib.hid hst
  have HB := Lib.hid hB
  clear hst hB
  clear hp
  have pz_0 := cv0 pz
  have pz_1 := cv1 pz
  have pz_2 := cv2 pz
  have pz_3 := cv3 pz
  have pz_f0 := free_heap pz 0
  have pz_f1 := free_heap pz 1
  have pz_f2 := free_heap pz 2
  have pz_f3 := free_heap pz 3
  have pz_l := lt_heap pz
  have PZ := Lib.hid pz
  clear pz
  have pf_0 := cv0 pf
  have pf_1 := cv1 pf
  have pf_f0 := free_heap pf 0
  have pf_f1 := free_heap pf 1
  have pf_l := lt_heap pf
  have PF := Lib.hid pf
  clear pf
  have pn_0 := cv0 pn
  have pn_1 := cv1 pn
  have pn_2 := cv2 pn
  have pn_3 := cv3 pn
  have pn_l := lt_heap pn
  have PN := Lib.hid pn
  clear pn
  have pd_0 := cv0 pd
  have pd_1 := cv1 pd
  have pd_2 := cv2 pd
  have pd_3 := cv3 pd
  have pd_f0 := free_heap pd 0
  have pd_f1 := free_heap pd 1
  have pd_f2 := free_heap pd 2
  have pd_f3 := free_heap pd 3
  have pd_l := lt_heap pd
  have PD := Lib.hid pd
  clear pd
  cases hk : f.kids.length with
  | zero =>
    rw [hk] at y3
    rw [show decide (f.kids.length = 0) = true from decide_eq_true hk] at HN
    clear hk
    simp only [Nat.zero_add] at y3
    go_wp2_with fail
    exact HN.out _ (id ⟨rfl, rfl, rfl, rfl, rfl, rfl, rfl, rfl, rfl, rfl, rfl, rfl, trivial⟩)
  | succ m =>
    have t1 : (((m + 1 + 1 : Nat) : Int) == 1) = false := beq_eq_false_iff_ne.2 (by omega)
    have t2 : ((m : Int) + 1 + 1 == 1) = false := beq_eq_false_iff_ne.2 (by omega)
    rw [hk] at y3
    rw [show decide (f.kids.length = 0) = false from decide_eq_false (by omega)] at HN
    clear hk
    go_wp2_with fail
    exact HN.out _ (id ⟨rfl, rfl, rfl, rfl, rfl, rfl, rfl, rfl, rfl, rfl, rfl, rfl, trivial⟩)
noncomputable def c_fr_f81 : Code := sub [1, 1, 1, 1, 1, 0, 0, 0, 1, 1, 1, 1, 1, 1, 1, 1, 0, 0, 0, 1, 1, 1, 1, 0, 1, 0, 0, 0] (Tryd.f12.body.getD .skip)
set_option maxRecDepth 1000000 in
set_option maxHeartbeats 16000000 in
theorem fr_f81_wp {Q : Exit → Act → World → Prop} {x : ByteArray} {w wr : World} {i n : Nat} {r : List F5} {g cq D : Nat} (hN : ∀ a', Frm 464 [(0, .string x), (2, .pointer (some ⟨w.heap.size, 0, none⟩)), (3, .pointer (some ⟨w.heap.size + 1, 0, none⟩)), (4, .pointer (some ⟨w.heap.size + 2, 0, none⟩)), (5, .slice (some ⟨g, 0, none⟩) (r.length + 1) cq), (6, .int .i64 (i : Nat)), (7, .int .i64 (n : Nat)), (9, .pointer (some ⟨D, 0, none⟩)), (23, .int .i64 (r.length : Nat)), (24, .int .i64 0)] a' → Q .normal a' wr) : ∀ ac, Frm 464 [(0, .string x), (2, .pointer (some ⟨w.heap.size, 0, none⟩)), (3, .pointer (some ⟨w.heap.size + 1, 0, none⟩)), (4, .pointer (some ⟨w.heap.size + 2, 0, none⟩)), (5, .slice (some ⟨g, 0, none⟩) (r.length + 1) cq), (6, .int .i64 (i : Nat)), (7, .int .i64 (n : Nat)), (9, .pointer (some ⟨D, 0, none⟩)), (23, .int .i64 (r.length : Nat))] ac → Code.wp Tryd.prog c_fr_f81 Q ac wr := by
  refine frm_open ?_
  refine frame_fr ?_
  intros
  rename_i hq
  obtain ⟨-, -, e0q, e1q, e2q, e3q, e4q, e5q, e6q, e7q, e8q, -⟩ := hq
  have e0q := (Option.some.inj e0q).symm; subst e0q
  have e1q := (Option.some.inj e1q).symm; subst e1q
  have e2q := (Option.some.inj e2q).symm; subst e2q
  have e3q := (Option.some.inj e3q).symm; subst e3q
  have e4q := (Option.some.inj e4q).symm; subst e4q
  have e5q := (Option.some.inj e5q).symm; subst e5q
  have e6q := (Option.some.inj e6q).symm; subst e6q
  have e7q := (Option.some.inj e7q).symm; subst e7q
  have e8q := (Option.some.inj e8q).symm; subst e8q
  conv => arg 2; whnf
  have HN := Lib.hid hN
  clear hN
  go_wp2_with fail
  exact HN.out _ (id ⟨rfl, rfl, rfl, rfl, rfl, rfl, rfl, rfl, rfl, rfl, rfl, rfl, trivial⟩)
noncomputable def c_fr_f381 : Code := sub [1, 1, 1, 1, 1, 0, 0, 0, 1, 1, 1, 1, 1, 1, 1, 1, 0, 0, 0, 1, 1, 1, 1, 0, 1, 0, 0, 1, 0, 0, 0] (Tryd.f12.body.getD .skip)
set_option maxRecDepth 1000000 in
set_option maxHeartbeats 16000000 in
theorem fr_f381_wp {Q : Exit → Act → World → Prop} {x : ByteArray} {w wr : World} {i n : Nat} {r : List F5} {g cq D k : Nat} (hT : k < 3 → ∀ a', Frm 464 [(0, .string x), (2, .pointer (some ⟨w.heap.size, 0, none⟩)), (3, .pointer (some ⟨w.heap.size + 1, 0, none⟩)), (4, .pointer (some ⟨w.heap.size + 2, 0, none⟩)), (5, .slice (some ⟨g, 0, none⟩) (r.length + 1) cq), (6, .int .i64 (i : Nat)), (7, .int .i64 (n : Nat)), (9, .pointer (some ⟨D, 0, none⟩)), (23, .int .i64 (r.length : Nat)), (24, .int .i64 (k : Nat))] a' → Q .normal a' wr) (hE : ¬ k < 3 → ∀ a', Frm 464 [(0, .string x), (2, .pointer (some ⟨w.heap.size, 0, none⟩)), (3, .pointer (some ⟨w.heap.size + 1, 0, none⟩)), (4, .pointer (some ⟨w.heap.size + 2, 0, none⟩)), (5, .slice (some ⟨g, 0, none⟩) (r.length + 1) cq), (6, .int .i64 (i : Nat)), (7, .int .i64 (n : Nat)), (9, .pointer (some ⟨D, 0, none⟩)), (23, .int .i64 (r.length : Nat)), (24, .int .i64 (k : Nat))] a' → Q (.exit 6) a' wr) : ∀ ac, Frm 464 [(0, .string x), (2, .pointer (some ⟨w.heap.size, 0, none⟩)), (3, .pointer (some ⟨w.heap.size + 1, 0, none⟩)), (4, .pointer (some ⟨w.heap.size + 2, 0, none⟩)), (5, .slice (some ⟨g, 0, none⟩) (r.length + 1) cq), (6, .int .i64 (i : Nat)), (7, .int .i64 (n : Nat)), (9, .pointer (some ⟨D, 0, none⟩)), (23, .int .i64 (r.length : Nat)), (24, .int .i64 (k : Nat))] ac → Code.wp Tryd.prog c_fr_f381 Q ac wr := by
  refine frm_open ?_
  refine frame_fr ?_
  intros
  rename_i hq
  obtain ⟨-, -, e0q, e1q, e2q, e3q, e4q, e5q, e6q, e7q, e8q, e9q, -⟩ := hq
  have e0q := (Option.some.inj e0q).symm; subst e0q
  have e1q := (Option.some.inj e1q).symm; subst e1q
  have e2q := (Option.some.inj e2q).symm; subst e2q
  have e3q := (Option.some.inj e3q).symm; subst e3q
  have e4q := (Option.some.inj e4q).symm; subst e4q
  have e5q := (Option.some.inj e5q).symm; subst e5q
  have e6q := (Option.some.inj e6q).symm; subst e6q
  have e7q := (Option.some.inj e7q).symm; subst e7q
  have e8q := (Option.some.inj e8q).symm; subst e8q
  have e9q := (Option.some.inj e9q).symm; subst e9q
  conv => arg 2; whnf
  have HT := Lib.hid hT
  have HE := Lib.hid hE
  clear hT hE
  by_cases hk : k < 3
  · have q1 : (k : Int) < 3 := by omega
    replace HT := Lib.hid (HT.out hk)
    clear hk
    go_wp2_with fail
    exact HT.out _ (id ⟨rfl, rfl, rfl, rfl, rfl, rfl, rfl, rfl, rfl, rfl, rfl, rfl, trivial⟩)
  · have q1 : ¬ (k : Int) < 3 := by omega
    replace HE := Lib.hid (HE.out hk)
    clear hk
    go_wp2_with fail
    exact HE.out _ (id ⟨rfl, rfl, rfl, rfl, rfl, rfl, rfl, rfl, rfl, rfl, rfl, rfl, trivial⟩)
noncomputable def c_fr_f84 : Code := sub [1, 1, 1, 1, 1, 0, 0, 0, 1, 1, 1, 1, 1, 1, 1, 1, 0, 0, 0, 1, 1, 1, 1, 0, 1, 0, 0, 1, 0, 0, 1, 0, 0, 0] (Tryd.f12.body.getD .skip)
set_option maxRecDepth 1000000 in
set_option maxHeartbeats 16000000 in
theorem fr_f84_wp {Q : Exit → Act → World → Prop} {x : ByteArray} {w wr : World} {i n : Nat} {r : List F5} {g cq D k : Nat} (hN : ∀ a', Frm 464 [(0, .string x), (2, .pointer (some ⟨w.heap.size, 0, none⟩)), (3, .pointer (some ⟨w.heap.size + 1, 0, none⟩)), (4, .pointer (some ⟨w.heap.size + 2, 0, none⟩)), (5, .slice (some ⟨g, 0, none⟩) (r.length + 1) cq), (6, .int .i64 (i : Nat)), (7, .int .i64 (n : Nat)), (9, .pointer (some ⟨D, 0, none⟩)), (23, .int .i64 (r.length : Nat)), (24, .int .i64 (k : Nat)), (25, .int .u8 0)] a' → Q .normal a' wr) : ∀ ac, Frm 464 [(0, .string x), (2, .pointer (some ⟨w.heap.size, 0, none⟩)), (3, .pointer (some ⟨w.heap.size + 1, 0, none⟩)), (4, .pointer (some ⟨w.heap.size + 2, 0, none⟩)), (5, .slice (some ⟨g, 0, none⟩) (r.length + 1) cq), (6, .int .i64 (i : Nat)), (7, .int .i64 (n : Nat)), (9, .pointer (some ⟨D, 0, none⟩)), (23, .int .i64 (r.length : Nat)), (24, .int .i64 (k : Nat))] ac → Code.wp Tryd.prog c_fr_f84 Q ac wr := by
  refine frm_open ?_
  refine frame_fr ?_
  intros
  rename_i hq
  obtain ⟨-, -, e0q, e1q, e2q, e3q, e4q, e5q, e6q, e7q, e8q, e9q, -⟩ := hq
  have e0q := (Option.some.inj e0q).symm; subst e0q
  have e1q := (Option.some.inj e1q).symm; subst e1q
  have e2q := (Option.some.inj e2q).symm; subst e2q
  have e3q := (Option.some.inj e3q).symm; subst e3q
  have e4q := (Option.some.inj e4q).symm; subst e4q
  have e5q := (Option.some.inj e5q).symm; subst e5q
  have e6q := (Option.some.inj e6q).symm; subst e6q
  have e7q := (Option.some.inj e7q).symm; subst e7q
  have e8q := (Option.some.inj e8q).symm; subst e8q
  have e9q := (Option.some.inj e9q).symm; subst e9q
  conv => arg 2; whnf
  have HN := Lib.hid hN
  clear hN
  go_wp2_with fail
  exact HN.out _ (id ⟨rfl, rfl, rfl, rfl, rfl, rfl, rfl, rfl, rfl, rfl, rfl, rfl, rfl, trivial⟩)
noncomputable def c_fr_f389 : Code := sub [1, 1, 1, 1, 1, 0, 0, 0, 1, 1, 1, 1, 1, 1, 1, 1, 0, 0, 0, 1, 1, 1, 1, 0, 1, 0, 0, 1, 0, 0, 1, 0, 0, 1, 0] (Tryd.f12.body.getD .skip)
set_option maxRecDepth 1000000 in
set_option maxHeartbeats 16000000 in
theorem fr_f389_wp {Q : Exit → Act → World → Prop} {x : ByteArray} {w wr : World} {i n : Nat} {r : List F5} {g cq D k : Nat} (h4 : i ≤ 9000) (hk : k ≤ 10) (hN : ∀ a', Frm 464 [(0, .string x), (2, .pointer (some ⟨w.heap.size, 0, none⟩)), (3, .pointer (some ⟨w.heap.size + 1, 0, none⟩)), (4, .pointer (some ⟨w.heap.size + 2, 0, none⟩)), (5, .slice (some ⟨g, 0, none⟩) (r.length + 1) cq), (6, .int .i64 (i : Nat)), (7, .int .i64 (n : Nat)), (9, .pointer (some ⟨D, 0, none⟩)), (23, .int .i64 (r.length : Nat)), (24, .int .i64 (k : Nat)), (25, .int .u8 (byteAt x (i + k) : Nat))] a' → Q .normal a' wr) : ∀ ac, Frm 464 [(0, .string x), (2, .pointer (some ⟨w.heap.size, 0, none⟩)), (3, .pointer (some ⟨w.heap.size + 1, 0, none⟩)), (4, .pointer (some ⟨w.heap.size + 2, 0, none⟩)), (5, .slice (some ⟨g, 0, none⟩) (r.length + 1) cq), (6, .int .i64 (i : Nat)), (7, .int .i64 (n : Nat)), (9, .pointer (some ⟨D, 0, none⟩)), (23, .int .i64 (r.length : Nat)), (24, .int .i64 (k : Nat)), (25, .int .u8 0)] ac → Code.wp Tryd.prog c_fr_f389 Q ac wr := by
  refine frm_open ?_
  refine frame_fr ?_
  intros
  rename_i hq
  obtain ⟨-, -, e0q, e1q, e2q, e3q, e4q, e5q, e6q, e7q, e8q, e9q, e10q, -⟩ := hq
  have e0q := (Option.some.inj e0q).symm; subst e0q
  have e1q := (Option.some.inj e1q).symm; subst e1q
  have e2q := (Option.some.inj e2q).symm; subst e2q
  have e3q := (Option.some.inj e3q).symm; subst e3q
  have e4q := (Option.some.inj e4q).symm; subst e4q
  have e5q := (Option.some.inj e5q).symm; subst e5q
  have e6q := (Option.some.inj e6q).symm; subst e6q
  have e7q := (Option.some.inj e7q).symm; subst e7q
  have e8q := (Option.some.inj e8q).symm; subst e8q
  have e9q := (Option.some.inj e9q).symm; subst e9q
  have e10q := (Option.some.inj e10q).symm; subst e10q
  conv => arg 2; whnf
  have HN := Lib.hid hN
  clear hN
  by_cases hi : i + k < x.size
  · have q1 : (i : Int) + (k : Int) < (x.size : Int) := by omega
    have q0 : (0 : Int) ≤ (i : Int) + (k : Int) := by omega
    rw [show byteAt x (i + k) = (x[i + k]'hi).toNat from byteAt_in hi] at HN
    go_wp2_with fail
    exact HN.out _ (id ⟨rfl, rfl, rfl, rfl, rfl, rfl, rfl, rfl, rfl, rfl, rfl, rfl, rfl, trivial⟩)
  · have q1 : ¬ (i : Int) + (k : Int) < (x.size : Int) := by omega
    rw [show byteAt x (i + k) = 0 from byteAt_out (by omega)] at HN
    go_wp2_with fail
    exact HN.out _ (id ⟨rfl, rfl, rfl, rfl, rfl, rfl, rfl, rfl, rfl, rfl, rfl, rfl, rfl, trivial⟩)
noncomputable def c_fr_f87 : Code := sub [1, 1, 1, 1, 1, 0, 0, 0, 1, 1, 1, 1, 1, 1, 1, 1, 0, 0, 0, 1, 1, 1, 1, 0, 1, 0, 0, 1, 0, 0, 1, 0, 0, 1, 1, 0] (Tryd.f12.body.getD .skip)
set_option maxRecDepth 1000000 in
set_option maxHeartbeats 16000000 in
theorem fr_f87_wp {Q : Exit → Act → World → Prop} {x : ByteArray} {w wr : World} {i n : Nat} {r : List F5} {g cq D k b : Nat} (hN : ∀ a', Frm 464 [(0, .string x), (2, .pointer (some ⟨w.heap.size, 0, none⟩)), (3, .pointer (some ⟨w.heap.size + 1, 0, none⟩)), (4, .pointer (some ⟨w.heap.size + 2, 0, none⟩)), (5, .slice (some ⟨g, 0, none⟩) (r.length + 1) cq), (6, .int .i64 (i : Nat)), (7, .int .i64 (n : Nat)), (9, .pointer (some ⟨D, 0, none⟩)), (23, .int .i64 (r.length : Nat)), (24, .int .i64 (k : Nat)), (25, .int .u8 (b : Nat)), (408, .bool (decide (k = 1 ∧ signF b ≠ 0)))] a' → Q .normal a' wr) : ∀ ac, Frm 464 [(0, .string x), (2, .pointer (some ⟨w.heap.size, 0, none⟩)), (3, .pointer (some ⟨w.heap.size + 1, 0, none⟩)), (4, .pointer (some ⟨w.heap.size + 2, 0, none⟩)), (5, .slice (some ⟨g, 0, none⟩) (r.length + 1) cq), (6, .int .i64 (i : Nat)), (7, .int .i64 (n : Nat)), (9, .pointer (some ⟨D, 0, none⟩)), (23, .int .i64 (r.length : Nat)), (24, .int .i64 (k : Nat)), (25, .int .u8 (b : Nat))] ac → Code.wp Tryd.prog c_fr_f87 Q ac wr := by
  refine frm_open ?_
  refine frame_fr ?_
  intros
  rename_i hq
  obtain ⟨-, -, e0q, e1q, e2q, e3q, e4q, e5q, e6q, e7q, e8q, e9q, e10q, -⟩ := hq
  have e0q := (Option.some.inj e0q).symm; subst e0q
  have e1q := (Option.some.inj e1q).symm; subst e1q
  have e2q := (Option.some.inj e2q).symm; subst e2q
  have e3q := (Option.some.inj e3q).symm; subst e3q
  have e4q := (Option.some.inj e4q).symm; subst e4q
  have e5q := (Option.some.inj e5q).symm; subst e5q
  have e6q := (Option.some.inj e6q).symm; subst e6q
  have e7q := (Option.some.inj e7q).symm; subst e7q
  have e8q := (Option.some.inj e8q).symm; subst e8q
  have e9q := (Option.some.inj e9q).symm; subst e9q
  have e10q := (Option.some.inj e10q).symm; subst e10q
  conv => arg 2; whnf
  have HN := Lib.hid hN
  clear hN
  by_cases hk : k = 1
  case neg =>
    have t0 : ((k : Int) == 1) = false := beq_eq_false_iff_ne.2 (by omega)
    rw [show decide (k = 1 ∧ signF b ≠ 0) = false from decide_eq_false (fun h => hk h.1)] at HN
    go_wp2_with fail
    exact HN.out _ (id ⟨rfl, rfl, rfl, rfl, rfl, rfl, rfl, rfl, rfl, rfl, rfl, rfl, rfl, rfl, trivial⟩)
  subst hk
  by_cases h1 : b = 38
  · have t1 : (((b : Nat) : Int) == 38) = true := by rw [h1]; rfl
    rw [show decide (1 = 1 ∧ signF b ≠ 0) = true from decide_eq_true ⟨rfl, by unfold signF; rw [if_pos h1]; decide⟩] at HN
    clear h1
    go_wp2_with fail
    exact HN.out _ (id ⟨rfl, rfl, rfl, rfl, rfl, rfl, rfl, rfl, rfl, rfl, rfl, rfl, rfl, rfl, trivial⟩)
  have t1 : (((b : Nat) : Int) == 38) = false := beq_eq_false_iff_ne.2 (by omega)
  by_cases h2 : b = 124
  · have t2 : (((b : Nat) : Int) == 124) = true := by rw [h2]; rfl
    rw [show decide (1 = 1 ∧ signF b ≠ 0) = true from decide_eq_true ⟨rfl, by unfold signF; rw [if_neg h1, if_pos h2]; decide⟩] at HN
    clear h1 h2
    go_wp2_with fail
    exact HN.out _ (id ⟨rfl, rfl, rfl, rfl, rfl, rfl, rfl, rfl, rfl, rfl, rfl, rfl, rfl, rfl, trivial⟩)
  have t2 : (((b : Nat) : Int) == 124) = false := beq_eq_false_iff_ne.2 (by omega)
  by_cases h3 : b = 62
  · have t3 : (((b : Nat) : Int) == 62) = true := by rw [h3]; rfl
    rw [show decide (1 = 1 ∧ signF b ≠ 0) = true from decide_eq_true ⟨rfl, by unfold signF; rw [if_neg h1, if_neg h2, if_pos h3]; decide⟩] at HN
    clear h1 h2 h3
    go_wp2_with fail
    exact HN.out _ (id ⟨rfl, rfl, rfl, rfl, rfl, rfl, rfl, rfl, rfl, rfl, rfl, rfl, rfl, rfl, trivial⟩)
  · have t3 : (((b : Nat) : Int) == 62) = false := beq_eq_false_iff_ne.2 (by omega)
    rw [show decide (1 = 1 ∧ signF b ≠ 0) = false from decide_eq_false (fun h => h.2 (by unfold signF; rw [if_neg h1, if_neg h2, if_neg h3]))] at HN
    clear h1 h2 h3
    go_wp2_with fail
    exact HN.out _ (id ⟨rfl, rfl, rfl, rfl, rfl, rfl, rfl, rfl, rfl, rfl, rfl, rfl, rfl, rfl, trivial⟩)
noncomputable def c_fr_f88 : Code := sub [1, 1, 1, 1, 1, 0, 0, 0, 1, 1, 1, 1, 1, 1, 1, 1, 0, 0, 0, 1, 1, 1, 1, 0, 1, 0, 0, 1, 0, 0, 1, 0, 0, 1, 1, 1, 0] (Tryd.f12.body.getD .skip)
set_option maxRecDepth 1000000 in
set_option maxHeartbeats 16000000 in
theorem fr_f88_wp {Q : Exit → Act → World → Prop} {x : ByteArray} {w wr : World} {i n : Nat} {f : Ff} {r : List F5} {g cq D lo h cap kd k b : Nat} {v : Fv} {dc : List Value} (hdc : dc = [dc.getD 0 undef, dc.getD 1 undef, dc.getD 2 undef, dc.getD 3 undef]) (hs : signF b ≠ 0) (hp : TopF w wr f r g cq D lo h cap v dc kd) (hN : ∀ a' wx, Frm 464 [(0, .string x), (2, .pointer (some ⟨w.heap.size, 0, none⟩)), (3, .pointer (some ⟨w.heap.size + 1, 0, none⟩)), (4, .pointer (some ⟨w.heap.size + 2, 0, none⟩)), (5, .slice (some ⟨g, 0, none⟩) (r.length + 1) cq), (6, .int .i64 (i : Nat)), (7, .int .i64 (n : Nat)), (9, .pointer (some ⟨D, 0, none⟩)), (23, .int .i64 (r.length : Nat)), (24, .int .i64 (k : Nat)), (25, .int .u8 (b : Nat))] a' → TopF w wx f r g cq D lo h cap v dc (signF b) → Q .normal a' wx) : ∀ ac, Frm 464 [(0, .string x), (2, .pointer (some ⟨w.heap.size, 0, none⟩)), (3, .pointer (some ⟨w.heap.size + 1, 0, none⟩)), (4, .pointer (some ⟨w.heap.size + 2, 0, none⟩)), (5, .slice (some ⟨g, 0, none⟩) (r.length + 1) cq), (6, .int .i64 (i : Nat)), (7, .int .i64 (n : Nat)), (9, .pointer (some ⟨D, 0, none⟩)), (23, .int .i64 (r.length : Nat)), (24, .int .i64 (k : Nat)), (25, .int .u8 (b : Nat))] ac → Code.wp Tryd.prog c_fr_f88 Q ac wr := by
  refine frm_open ?_
  refine frame_fr ?_
  intros
  rename_i hq
  obtain ⟨-, -, e0q, e1q, e2q, e3q, e4q, e5q, e6q, e7q, e8q, e9q, e10q, -⟩ := hq
  have e0q := (Option.some.inj e0q).symm; subst e0q
  have e1q := (Option.some.inj e1q).symm; subst e1q
  have e2q := (Option.some.inj e2q).symm; subst e2q
  have e3q := (Option.some.inj e3q).symm; subst e3q
  have e4q := (Option.some.inj e4q).symm; subst e4q
  have e5q := (Option.some.inj e5q).symm; subst e5q
  have e6q := (Option.some.inj e6q).symm; subst e6q
  have e7q := (Option.some.inj e7q).symm; subst e7q
  have e8q := (Option.some.inj e8q).symm; subst e8q
  have e9q := (Option.some.inj e9q).symm; subst e9q
  have e10q := (Option.some.inj e10q).symm; subst e10q
  conv => arg 2; whnf
  have HN := Lib.hid hN
  clear hN
  have hbz := GsOk.base hp.fs
  have hst := hp.st
  have hgd := hp.gl
  have hDl := hp.dl
  have hpll := hp.ll
  have hh2 := hp.h2
  have hgw := hp.gw
  obtain ⟨pz, pf, pn⟩ := hp.z
  have pd := hp.d
  have hB := hp.B
  have wgl : g < wr.heap.size := by omega
  have y0 : wr.cell? ⟨g, r.length * 5, none⟩ = some (.int .i64 (kd : Nat)) := (hst.cellAt (r.length * 5) (by omega)).trans (snocAt (j := 0) (f5Cells_len r))
  have y1 : wr.cell? ⟨g, r.length * 5 + 1, none⟩ = some (.string f.nm) := (hst.cellAt (r.length * 5 + 1) (by omega)).trans (snocAt (j := 1) (f5Cells_len r))
  have y2 : wr.cell? ⟨g, r.length * 5 + 2, none⟩ = some (.slice none 0 0) := (hst.cellAt (r.length * 5 + 2) (by omega)).trans (snocAt (j := 2) (f5Cells_len r))
  have y3 : wr.cell? ⟨g, r.length * 5 + 3, none⟩ = some (.slice (some ⟨h, 0, none⟩) (f.kids.length + 1) cap) := (hst.cellAt (r.length * 5 + 3) (by omega)).trans (snocAt (j := 3) (f5Cells_len r))
  have y4 : wr.cell? ⟨g, r.length * 5 + 4, none⟩ = some (.bool f.closed) := (hst.cellAt (r.length * 5 + 4) (by omega)).trans (snocAt (j := 4) (f5Cells_len r))
  have yf0 := hst.frozenAt (r.length * 5)
  have q9 : (r.length : Int) ≤ (cq : Int) := by
    rcases hst.2 with ⟨h2, _⟩ | ⟨b1, c1, cu1, e1, _, q1, hcc, _⟩
    · cases h2
    · simp only [Value.slice.injEq] at e1
      omega
  have q5 : (0 : Int) ≤ (r.length : Int) := by omega
  have q6 : (r.length : Int) < (r.length : Int) + 1 := by omega
  have q10 : (r.length : Int) ≤ (r.length : Int) + 1 := by omega
  obtain ⟨e0, e1, e2, e3, rfl⟩ : ∃ e0 e1 e2 e3, dc = [e0, e1, e2, e3] := ⟨_, _, _, _, hdc⟩
  have HP := Lib.hid hp
  have HST := Lib.hid hst
  have HB := Lib.hid hB
  clear hst hB
  clear hp
  have pz_0 := cv0 pz
  have pz_1 := cv1 pz
  have pz_2 := cv2 pz
  have pz_3 := cv3 pz
  have pz_f0 := free_heap pz 0
  have pz_f1 := free_heap pz 1
  have pz_f2 := free_heap pz 2
  have pz_f3 := free_heap pz 3
  have pz_l := lt_heap pz
  have PZ := Lib.hid pz
  clear pz
  have pf_0 := cv0 pf
  have pf_1 := cv1 pf
  have pf_f0 := free_heap pf 0
  have pf_f1 := free_heap pf 1
  have pf_l := lt_heap pf
  have PF := Lib.hid pf
  clear pf
  have pn_0 := cv0 pn
  have pn_1 := cv1 pn
  have pn_2 := cv2 pn
  have pn_3 := cv3 pn
  have pn_l := lt_heap pn
  have PN := Lib.hid pn
  clear pn
  have pd_0 := cv0 pd
  have pd_1 := cv1 pd
  have pd_2 := cv2 pd
  have pd_3 := cv3 pd
  have pd_f0 := free_heap pd 0
  have pd_f1 := free_heap pd 1
  have pd_f2 := free_heap pd 2
  have pd_f3 := free_heap pd 3
  have pd_l := lt_heap pd
  have PD := Lib.hid pd
  clear pd
  have HB1 := HB
  by_cases h1 : b = 38
  · have t1 : (((b : Nat) : Int) == 124) = false := beq_eq_false_iff_ne.2 (by omega)
    have t2 : (((b : Nat) : Int) == 62) = false := beq_eq_false_iff_ne.2 (by omega)
    have hsg : signF b = 5 := by unfold signF; rw [if_pos h1]
    have HSG := Lib.hid hsg
    clear hsg
    clear h1
    go_wp2_with fail
    refine HN.out _ _ (id ⟨rfl, rfl, rfl, rfl, rfl, rfl, rfl, rfl, rfl, rfl, rfl, rfl, rfl, trivial⟩) ?_
    rw [HSG.out]
    exact HP.out.kind 5
  by_cases h2 : b = 124
  · have t1 : (((b : Nat) : Int) == 124) = true := by rw [h2]; rfl
    have t2 : (((b : Nat) : Int) == 62) = false := beq_eq_false_iff_ne.2 (by omega)
    have hsg : signF b = 6 := by unfold signF; rw [if_neg h1, if_pos h2]
    have HSG := Lib.hid hsg
    clear hsg
    clear h1 h2
    go_wp2_with fail
    refine HN.out _ _ (id ⟨rfl, rfl, rfl, rfl, rfl, rfl, rfl, rfl, rfl, rfl, rfl, rfl, rfl, trivial⟩) ?_
    rw [HSG.out]
    exact (HP.out.kind 5).kind 6
  have h3 : b = 62 := by
    unfold signF at hs
    rw [if_neg h1, if_neg h2] at hs
    by_cases h : b = 62
    · exact h
    · rw [if_neg h] at hs; exact absurd rfl hs
  have t1 : (((b : Nat) : Int) == 124) = false := beq_eq_false_iff_ne.2 (by omega)
  have t2 : (((b : Nat) : Int) == 62) = true := by rw [h3]; rfl
  have hsg : signF b = 7 := by unfold signF; rw [if_neg h1, if_neg h2, if_pos h3]
  have HSG := Lib.hid hsg
  clear hsg
  clear h1 h2 h3 hs
  go_wp2_with fail
  refine HN.out _ _ (id ⟨rfl, rfl, rfl, rfl, rfl, rfl, rfl, rfl, rfl, rfl, rfl, rfl, rfl, trivial⟩) ?_
  rw [HSG.out]
  exact (HP.out.kind 5).kind 7
noncomputable def c_fr_f433 : Code := sub [1, 1, 1, 1, 1, 0, 0, 0, 1, 1, 1, 1, 1, 1, 1, 1, 0, 0, 0, 1, 1, 1, 1, 0, 1, 0, 0, 1, 0, 0, 1, 0, 0, 1, 1, 1, 1] (Tryd.f12.body.getD .skip)
set_option maxRecDepth 1000000 in
set_option maxHeartbeats 16000000 in
theorem fr_f433_wp {Q : Exit → Act → World → Prop} {x : ByteArray} {w wr : World} {i n : Nat} {r : List F5} {g cq D k b : Nat} (h4 : i ≤ 9000) (hk3 : k ≤ 10) (hz : (wr.heap[w.heap.size]? = some (.cells #[.int .i64 0, .string ⟨#[]⟩, .slice none 0 0, .slice none 0 0] 34 (0, 0)) ∧ wr.heap[w.heap.size + 1]? = some (.cells #[.int .i64 0, .int .i64 0] 27 (0, 0)) ∧ wr.heap[w.heap.size + 2]? = some (.cells #[.int .i64 0, .string ⟨#[]⟩, .slice none 0 0, .slice none 0 0] 34 (0, 0)))) (hB : Below w.heap.size w wr) (hR : k = 1 ∨ b ≠ 32 → ∀ a' w', Frm 464 [(2, .pointer (some ⟨w.heap.size, 0, none⟩)), (3, .pointer (some ⟨w.heap.size + 1, 0, none⟩))] a' → w'.heap[w.heap.size]? = some (.cells #[.int .i64 0, .string ⟨#[]⟩, .slice none 0 0, .slice none 0 0] 34 (0, 0)) → w'.heap[w.heap.size + 1]? = some (.cells #[.int .i64 11, .int .i64 ((i : Int) + (k : Int))] 27 (0, 0)) → Below w.heap.size w w' → Q .ret a' w') (hN : k ≠ 1 → b = 32 → ∀ a', Frm 464 [(0, .string x), (2, .pointer (some ⟨w.heap.size, 0, none⟩)), (3, .pointer (some ⟨w.heap.size + 1, 0, none⟩)), (4, .pointer (some ⟨w.heap.size + 2, 0, none⟩)), (5, .slice (some ⟨g, 0, none⟩) (r.length + 1) cq), (6, .int .i64 (i : Nat)), (7, .int .i64 (n : Nat)), (9, .pointer (some ⟨D, 0, none⟩)), (23, .int .i64 (r.length : Nat)), (24, .int .i64 (k : Nat)), (25, .int .u8 (b : Nat))] a' → Q .normal a' wr) : ∀ ac, Frm 464 [(0, .string x), (2, .pointer (some ⟨w.heap.size, 0, none⟩)), (3, .pointer (some ⟨w.heap.size + 1, 0, none⟩)), (4, .pointer (some ⟨w.heap.size + 2, 0, none⟩)), (5, .slice (some ⟨g, 0, none⟩) (r.length + 1) cq), (6, .int .i64 (i : Nat)), (7, .int .i64 (n : Nat)), (9, .pointer (some ⟨D, 0, none⟩)), (23, .int .i64 (r.length : Nat)), (24, .int .i64 (k : Nat)), (25, .int .u8 (b : Nat))] ac → Code.wp Tryd.prog c_fr_f433 Q ac wr := by
  refine frm_open ?_
  refine frame_fr ?_
  intros
  rename_i hq
  obtain ⟨-, -, e0q, e1q, e2q, e3q, e4q, e5q, e6q, e7q, e8q, e9q, e10q, -⟩ := hq
  have e0q := (Option.some.inj e0q).symm; subst e0q
  have e1q := (Option.some.inj e1q).symm; subst e1q
  have e2q := (Option.some.inj e2q).symm; subst e2q
  have e3q := (Option.some.inj e3q).symm; subst e3q
  have e4q := (Option.some.inj e4q).symm; subst e4q
  have e5q := (Option.some.inj e5q).symm; subst e5q
  have e6q := (Option.some.inj e6q).symm; subst e6q
  have e7q := (Option.some.inj e7q).symm; subst e7q
  have e8q := (Option.some.inj e8q).symm; subst e8q
  have e9q := (Option.some.inj e9q).symm; subst e9q
  have e10q := (Option.some.inj e10q).symm; subst e10q
  conv => arg 2; whnf
  have HR := Lib.hid hR
  have HN := Lib.hid hN
  clear hR hN
  obtain ⟨pz, pf, pn⟩ := hz
  have HB := Lib.hid hB
  clear hB
  have pz_0 := cv0 pz
  have pz_1 := cv1 pz
  have pz_2 := cv2 pz
  have pz_3 := cv3 pz
  have pz_f0 := free_heap pz 0
  have pz_f1 := free_heap pz 1
  have pz_f2 := free_heap pz 2
  have pz_f3 := free_heap pz 3
  have pz_l := lt_heap pz
  have PZ := Lib.hid pz
  clear pz
  have pf_0 := cv0 pf
  have pf_1 := cv1 pf
  have pf_f0 := free_heap pf 0
  have pf_f1 := free_heap pf 1
  have pf_l := lt_heap pf
  have PF := Lib.hid pf
  clear pf
  have pn_0 := cv0 pn
  have pn_1 := cv1 pn
  have pn_2 := cv2 pn
  have pn_3 := cv3 pn
  have pn_l := lt_heap pn
  have PN := Lib.hid pn
  clear pn
  by_cases hk : k = 1
  · subst hk
    replace HR := Lib.hid (HR.out (Or.inl rfl))
    go_wp2_with fail
    exact HR.out _ _ (id ⟨rfl, rfl, rfl, rfl, trivial⟩) (far2 (by omega) (at4 PZ.out)) (at2 (far4 (by omega) PF.out)) (below2 (below4 HB.out (Nat.le_refl _)) (by omega))
  have t0 : ((k : Int) == 1) = false := beq_eq_false_iff_ne.2 (by omega)
  by_cases hb : b = 32
  · have t1 : (((b : Nat) : Int) != 32) = false := by rw [hb]; rfl
    replace HN := Lib.hid (HN.out hk hb)
    clear hb hk
    go_wp2_with fail
    exact HN.out _ (id ⟨rfl, rfl, rfl, rfl, rfl, rfl, rfl, rfl, rfl, rfl, rfl, rfl, rfl, trivial⟩)
  · have t1 : (((b : Nat) : Int) != 32) = true := bne_iff_ne.2 (by omega)
    replace HR := Lib.hid (HR.out (Or.inr hb))
    clear hb hk
    go_wp2_with fail
    exact HR.out _ _ (id ⟨rfl, rfl, rfl, rfl, trivial⟩) (far2 (by omega) (at4 PZ.out)) (at2 (far4 (by omega) PF.out)) (below2 (below4 HB.out (Nat.le_refl _)) (by omega))
noncomputable def c_fr_f83 : Code := sub [1, 1, 1, 1, 1, 0, 0, 0, 1, 1, 1, 1, 1, 1, 1, 1, 0, 0, 0, 1, 1, 1, 1, 0, 1, 0, 0, 1, 0, 0, 1, 1] (Tryd.f12.body.getD .skip)
set_option maxRecDepth 1000000 in
set_option maxHeartbeats 16000000 in
theorem fr_f83_wp {Q : Exit → Act → World → Prop} {x : ByteArray} {w wr : World} {i n : Nat} {r : List F5} {g cq D k b : Nat} (hk : k ≤ 10) (hN : ∀ a', Frm 464 [(0, .string x), (2, .pointer (some ⟨w.heap.size, 0, none⟩)), (3, .pointer (some ⟨w.heap.size + 1, 0, none⟩)), (4, .pointer (some ⟨w.heap.size + 2, 0, none⟩)), (5, .slice (some ⟨g, 0, none⟩) (r.length + 1) cq), (6, .int .i64 (i : Nat)), (7, .int .i64 (n : Nat)), (9, .pointer (some ⟨D, 0, none⟩)), (23, .int .i64 (r.length : Nat)), (24, .int .i64 (k + 1 : Nat))] a' → Q .normal a' wr) : ∀ ac, Frm 464 [(0, .string x), (2, .pointer (some ⟨w.heap.size, 0, none⟩)), (3, .pointer (some ⟨w.heap.size + 1, 0, none⟩)), (4, .pointer (some ⟨w.heap.size + 2, 0, none⟩)), (5, .slice (some ⟨g, 0, none⟩) (r.length + 1) cq), (6, .int .i64 (i : Nat)), (7, .int .i64 (n : Nat)), (9, .pointer (some ⟨D, 0, none⟩)), (23, .int .i64 (r.length : Nat)), (24, .int .i64 (k : Nat)), (25, .int .u8 (b : Nat))] ac → Code.wp Tryd.prog c_fr_f83 Q ac wr := by
  refine frm_open ?_
  refine frame_fr ?_
  intros
  rename_i hq
  obtain ⟨-, -, e0q, e1q, e2q, e3q, e4q, e5q, e6q, e7q, e8q, e9q, e10q, -⟩ := hq
  have e0q := (Option.some.inj e0q).symm; subst e0q
  have e1q := (Option.some.inj e1q).symm; subst e1q
  have e2q := (Option.some.inj e2q).symm; subst e2q
  have e3q := (Option.some.inj e3q).symm; subst e3q
  have e4q := (Option.some.inj e4q).symm; subst e4q
  have e5q := (Option.some.inj e5q).symm; subst e5q
  have e6q := (Option.some.inj e6q).symm; subst e6q
  have e7q := (Option.some.inj e7q).symm; subst e7q
  have e8q := (Option.some.inj e8q).symm; subst e8q
  have e9q := (Option.some.inj e9q).symm; subst e9q
  have e10q := (Option.some.inj e10q).symm; subst e10q
  conv => arg 2; whnf
  have HN := Lib.hid hN
  clear hN
  have hw : (k : Int) + 1 = ((k + 1 : Nat) : Int) := by omega
  have HW := Lib.hid hw
  clear hw
  go_wp2_with fail
  rw [HW.out]
  exact HN.out _ (id ⟨rfl, rfl, rfl, rfl, rfl, rfl, rfl, rfl, rfl, rfl, rfl, rfl, trivial⟩)
noncomputable def c_fr_f95 : Code := sub [1, 1, 1, 1, 1, 0, 0, 0, 1, 1, 1, 1, 1, 1, 1, 1, 0, 0, 0, 1, 1, 1, 1, 0, 1, 0, 1] (Tryd.f12.body.getD .skip)
set_option maxRecDepth 1000000 in
set_option maxHeartbeats 16000000 in
theorem fr_f95_wp {Q : Exit → Act → World → Prop} {x : ByteArray} {w wr : World} {i n : Nat} {r : List F5} {g cq D k : Nat} (h4 : i ≤ 9000) (hX : ∀ a', Frm 464 [(0, .string x), (2, .pointer (some ⟨w.heap.size, 0, none⟩)), (3, .pointer (some ⟨w.heap.size + 1, 0, none⟩)), (4, .pointer (some ⟨w.heap.size + 2, 0, none⟩)), (5, .slice (some ⟨g, 0, none⟩) (r.length + 1) cq), (6, .int .i64 (i + 3 : Nat)), (7, .int .i64 (n : Nat))] a' → Q (.exit 4) a' wr) : ∀ ac, Frm 464 [(0, .string x), (2, .pointer (some ⟨w.heap.size, 0, none⟩)), (3, .pointer (some ⟨w.heap.size + 1, 0, none⟩)), (4, .pointer (some ⟨w.heap.size + 2, 0, none⟩)), (5, .slice (some ⟨g, 0, none⟩) (r.length + 1) cq), (6, .int .i64 (i : Nat)), (7, .int .i64 (n : Nat)), (9, .pointer (some ⟨D, 0, none⟩)), (23, .int .i64 (r.length : Nat)), (24, .int .i64 (k : Nat))] ac → Code.wp Tryd.prog c_fr_f95 Q ac wr := by
  refine frm_open ?_
  refine frame_fr ?_
  intros
  rename_i hq
  obtain ⟨-, -, e0q, e1q, e2q, e3q, e4q, e5q, e6q, e7q, e8q, e9q, -⟩ := hq
  have e0q := (Option.some.inj e0q).symm; subst e0q
  have e1q := (Option.some.inj e1q).symm; subst e1q
  have e2q := (Option.some.inj e2q).symm; subst e2q
  have e3q := (Option.some.inj e3q).symm; subst e3q
  have e4q := (Option.some.inj e4q).symm; subst e4q
  have e5q := (Option.some.inj e5q).symm; subst e5q
  have e6q := (Option.some.inj e6q).symm; subst e6q
  have e7q := (Option.some.inj e7q).symm; subst e7q
  have e8q := (Option.some.inj e8q).symm; subst e8q
  have e9q := (Option.some.inj e9q).symm; subst e9q
  conv => arg 2; whnf
  have HX := Lib.hid hX
  clear hX
  have hw : (i : Int) + 3 = ((i + 3 : Nat) : Int) := by omega
  have HW := Lib.hid hw
  clear hw
  go_wp2_with fail
  rw [HW.out]
  exact HX.out _ (id ⟨rfl, rfl, rfl, rfl, rfl, rfl, rfl, rfl, rfl, trivial⟩)
noncomputable def c_fr_f450 : Code := sub [1, 1, 1, 1, 1, 0, 0, 0, 1, 1, 1, 1, 1, 1, 1, 1, 0, 0, 0, 1, 1, 1, 1, 1, 0] (Tryd.f12.body.getD .skip)
set_option maxRecDepth 1000000 in
set_option maxHeartbeats 16000000 in
theorem fr_f450_wp {Q : Exit → Act → World → Prop} {x : ByteArray} {w wr : World} {i n : Nat} {r : List F5} {g cq D : Nat} (h4 : i ≤ 9000) (hz : (wr.heap[w.heap.size]? = some (.cells #[.int .i64 0, .string ⟨#[]⟩, .slice none 0 0, .slice none 0 0] 34 (0, 0)) ∧ wr.heap[w.heap.size + 1]? = some (.cells #[.int .i64 0, .int .i64 0] 27 (0, 0)) ∧ wr.heap[w.heap.size + 2]? = some (.cells #[.int .i64 0, .string ⟨#[]⟩, .slice none 0 0, .slice none 0 0] 34 (0, 0)))) (hB : Below w.heap.size w wr) (hR : byteAt x i ≠ 41 → ∀ a' w', Frm 464 [(2, .pointer (some ⟨w.heap.size, 0, none⟩)), (3, .pointer (some ⟨w.heap.size + 1, 0, none⟩))] a' → w'.heap[w.heap.size]? = some (.cells #[.int .i64 0, .string ⟨#[]⟩, .slice none 0 0, .slice none 0 0] 34 (0, 0)) → w'.heap[w.heap.size + 1]? = some (.cells #[.int .i64 11, .int .i64 (i : Nat)] 27 (0, 0)) → Below w.heap.size w w' → Q .ret a' w') (hN : byteAt x i = 41 → ∀ a', Frm 464 [(0, .string x), (2, .pointer (some ⟨w.heap.size, 0, none⟩)), (3, .pointer (some ⟨w.heap.size + 1, 0, none⟩)), (4, .pointer (some ⟨w.heap.size + 2, 0, none⟩)), (5, .slice (some ⟨g, 0, none⟩) (r.length + 1) cq), (6, .int .i64 (i : Nat)), (7, .int .i64 (n : Nat)), (9, .pointer (some ⟨D, 0, none⟩)), (23, .int .i64 (r.length : Nat))] a' → Q .normal a' wr) : ∀ ac, Frm 464 [(0, .string x), (2, .pointer (some ⟨w.heap.size, 0, none⟩)), (3, .pointer (some ⟨w.heap.size + 1, 0, none⟩)), (4, .pointer (some ⟨w.heap.size + 2, 0, none⟩)), (5, .slice (some ⟨g, 0, none⟩) (r.length + 1) cq), (6, .int .i64 (i : Nat)), (7, .int .i64 (n : Nat)), (9, .pointer (some ⟨D, 0, none⟩)), (23, .int .i64 (r.length : Nat))] ac → Code.wp Tryd.prog c_fr_f450 Q ac wr := by
  refine frm_open ?_
  refine frame_fr ?_
  intros
  rename_i hq
  obtain ⟨-, -, e0q, e1q, e2q, e3q, e4q, e5q, e6q, e7q, e8q, -⟩ := hq
  have e0q := (Option.some.inj e0q).symm; subst e0q
  have e1q := (Option.some.inj e1q).symm; subst e1q
  have e2q := (Option.some.inj e2q).symm; subst e2q
  have e3q := (Option.some.inj e3q).symm; subst e3q
  have e4q := (Option.some.inj e4q).symm; subst e4q
  have e5q := (Option.some.inj e5q).symm; subst e5q
  have e6q := (Option.some.inj e6q).symm; subst e6q
  have e7q := (Option.some.inj e7q).symm; subst e7q
  have e8q := (Option.some.inj e8q).symm; subst e8q
  conv => arg 2; whnf
  have HR := Lib.hid hR
  have HN := Lib.hid hN
  clear hR hN
  obtain ⟨pz, pf, pn⟩ := hz
  have HB := Lib.hid hB
  clear hB
  have pz_0 := cv0 pz
  have pz_1 := cv1 pz
  have pz_2 := cv2 pz
  have pz_3 := cv3 pz
  have pz_f0 := free_heap pz 0
  have pz_f1 := free_heap pz 1
  have pz_f2 := free_heap pz 2
  have pz_f3 := free_heap pz 3
  have pz_l := lt_heap pz
  have PZ := Lib.hid pz
  clear pz
  have pf_0 := cv0 pf
  have pf_1 := cv1 pf
  have pf_f0 := free_heap pf 0
  have pf_f1 := free_heap pf 1
  have pf_l := lt_heap pf
  have PF := Lib.hid pf
  clear pf
  have pn_0 := cv0 pn
  have pn_1 := cv1 pn
  have pn_2 := cv2 pn
  have pn_3 := cv3 pn
  have pn_l := lt_heap pn
  have PN := Lib.hid pn
  clear pn
  by_cases hl2 : i < x.size
  case neg =>
    have q1 : (x.size : Int) ≤ (i : Int) := by omega
    have hch : byteAt x (i) ≠ 41 := by rw [byteAt_out (by omega)]; decide
    replace HR := Lib.hid (HR.out hch)
    clear hch
    go_wp2_with fail
    exact HR.out _ _ (id ⟨rfl, rfl, rfl, rfl, trivial⟩) (far2 (by omega) (at4 PZ.out)) (at2 (far4 (by omega) PF.out)) (below2 (below4 HB.out (Nat.le_refl _)) (by omega))
  have q1 : ¬ (x.size : Int) ≤ (i : Int) := by omega
  have q0 : (0 : Int) ≤ (i : Int) := by omega
  have q3 : (i : Int) < (x.size : Int) := by omega
  have hb2 : byteAt x (i) = (x[i]'hl2).toNat := byteAt_in hl2
  by_cases hc2 : (x[i]'hl2).toNat = 41
  · have q2 : ((((x[i]'hl2).toNat : Nat) : Int) != 41) = false := by rw [hc2]; rfl
    have hch : byteAt x (i) = 41 := by rw [hb2]; exact hc2
    clear hb2 hc2
    replace HN := Lib.hid (HN.out hch)
    clear hch
    go_wp2_with fail
    exact HN.out _ (id ⟨rfl, rfl, rfl, rfl, rfl, rfl, rfl, rfl, rfl, rfl, rfl, trivial⟩)
  · have q2 : ((((x[i]'hl2).toNat : Nat) : Int) != 41) = true := bne_iff_ne.2 (by omega)
    have hch : byteAt x (i) ≠ 41 := by rw [hb2]; exact hc2
    clear hb2 hc2
    replace HR := Lib.hid (HR.out hch)
    clear hch
    go_wp2_with fail
    exact HR.out _ _ (id ⟨rfl, rfl, rfl, rfl, trivial⟩) (far2 (by omega) (at4 PZ.out)) (at2 (far4 (by omega) PF.out)) (below2 (below4 HB.out (Nat.le_refl _)) (by omega))
noncomputable def c_fr_f98 : Code := sub [1, 1, 1, 1, 1, 0, 0, 0, 1, 1, 1, 1, 1, 1, 1, 1, 0, 0, 0, 1, 1, 1, 1, 1, 1, 0] (Tryd.f12.body.getD .skip)
set_option maxRecDepth 1000000 in
set_option maxHeartbeats 16000000 in
theorem fr_f98_wp {Q : Exit → Act → World → Prop} {x : ByteArray} {w wr : World} {i n : Nat} {r : List F5} {g cq D : Nat} (h4 : i ≤ 9000) (hN : ∀ a', Frm 464 [(0, .string x), (2, .pointer (some ⟨w.heap.size, 0, none⟩)), (3, .pointer (some ⟨w.heap.size + 1, 0, none⟩)), (4, .pointer (some ⟨w.heap.size + 2, 0, none⟩)), (5, .slice (some ⟨g, 0, none⟩) (r.length + 1) cq), (6, .int .i64 (i + 1 : Nat)), (7, .int .i64 (n : Nat)), (9, .pointer (some ⟨D, 0, none⟩)), (23, .int .i64 (r.length : Nat))] a' → Q .normal a' wr) : ∀ ac, Frm 464 [(0, .string x), (2, .pointer (some ⟨w.heap.size, 0, none⟩)), (3, .pointer (some ⟨w.heap.size + 1, 0, none⟩)), (4, .pointer (some ⟨w.heap.size + 2, 0, none⟩)), (5, .slice (some ⟨g, 0, none⟩) (r.length + 1) cq), (6, .int .i64 (i : Nat)), (7, .int .i64 (n : Nat)), (9, .pointer (some ⟨D, 0, none⟩)), (23, .int .i64 (r.length : Nat))] ac → Code.wp Tryd.prog c_fr_f98 Q ac wr := by
  refine frm_open ?_
  refine frame_fr ?_
  intros
  rename_i hq
  obtain ⟨-, -, e0q, e1q, e2q, e3q, e4q, e5q, e6q, e7q, e8q, -⟩ := hq
  have e0q := (Option.some.inj e0q).symm; subst e0q
  have e1q := (Option.some.inj e1q).symm; subst e1q
  have e2q := (Option.some.inj e2q).symm; subst e2q
  have e3q := (Option.some.inj e3q).symm; subst e3q
  have e4q := (Option.some.inj e4q).symm; subst e4q
  have e5q := (Option.some.inj e5q).symm; subst e5q
  have e6q := (Option.some.inj e6q).symm; subst e6q
  have e7q := (Option.some.inj e7q).symm; subst e7q
  have e8q := (Option.some.inj e8q).symm; subst e8q
  conv => arg 2; whnf
  have HN := Lib.hid hN
  clear hN
  have hw : (i : Int) + 1 = ((i + 1 : Nat) : Int) := by omega
  have HW := Lib.hid hw
  clear hw
  go_wp2_with fail
  rw [HW.out]
  exact HN.out _ (id ⟨rfl, rfl, rfl, rfl, rfl, rfl, rfl, rfl, rfl, rfl, rfl, trivial⟩)
noncomputable def c_fr_f99 : Code := sub [1, 1, 1, 1, 1, 0, 0, 0, 1, 1, 1, 1, 1, 1, 1, 1, 0, 0, 0, 1, 1, 1, 1, 1, 1, 1] (Tryd.f12.body.getD .skip)
set_option maxRecDepth 1000000 in
set_option maxHeartbeats 16000000 in
theorem fr_f99_wp {Q : Exit → Act → World → Prop} {x : ByteArray} {w wr : World} {i n : Nat} {f : Ff} {r : List F5} {g cq D lo h cap : Nat} {v : Fv} {dc : List Value} {v' : Fv} (hdc : dc = [dc.getD 0 undef, dc.getD 1 undef, dc.getD 2 undef, dc.getD 3 undef]) (hp : TopF w wr f r g cq D lo h cap v dc f.kind) (hv : v'.fm = .mk ⟨f.kind, f.nm, []⟩ (f.kids ++ [v.fm])) (hN : ∀ dc' a' wx, Frm 464 [(0, .string x), (2, .pointer (some ⟨w.heap.size, 0, none⟩)), (3, .pointer (some ⟨w.heap.size + 1, 0, none⟩)), (4, .pointer (some ⟨w.heap.size + 2, 0, none⟩)), (5, .slice (some ⟨g, 0, none⟩) r.length cq), (6, .int .i64 (i : Nat)), (7, .int .i64 (n : Nat)), (9, .pointer (some ⟨D, 0, none⟩))] a' → PopF w wx r (some ⟨g, 0, none⟩) cq D lo v' dc' → Q .normal a' wx) : ∀ ac, Frm 464 [(0, .string x), (2, .pointer (some ⟨w.heap.size, 0, none⟩)), (3, .pointer (some ⟨w.heap.size + 1, 0, none⟩)), (4, .pointer (some ⟨w.heap.size + 2, 0, none⟩)), (5, .slice (some ⟨g, 0, none⟩) (r.length + 1) cq), (6, .int .i64 (i : Nat)), (7, .int .i64 (n : Nat)), (9, .pointer (some ⟨D, 0, none⟩)), (23, .int .i64 (r.length : Nat))] ac → Code.wp Tryd.prog c_fr_f99 Q ac wr := by
  refine frm_open ?_
  refine frame_fr ?_
  intros
  rename_i hq
  obtain ⟨-, -, e0q, e1q, e2q, e3q, e4q, e5q, e6q, e7q, e8q, -⟩ := hq
  have e0q := (Option.some.inj e0q).symm; subst e0q
  have e1q := (Option.some.inj e1q).symm; subst e1q
  have e2q := (Option.some.inj e2q).symm; subst e2q
  have e3q := (Option.some.inj e3q).symm; subst e3q
  have e4q := (Option.some.inj e4q).symm; subst e4q
  have e5q := (Option.some.inj e5q).symm; subst e5q
  have e6q := (Option.some.inj e6q).symm; subst e6q
  have e7q := (Option.some.inj e7q).symm; subst e7q
  have e8q := (Option.some.inj e8q).symm; subst e8q
  conv => arg 2; whnf
  have HN := Lib.hid hN
  clear hN
  have hbz := GsOk.base hp.fs
  have hst := hp.st
  have hgd := hp.gl
  have hDl := hp.dl
  have hpll := hp.ll
  have hh2 := hp.h2
  have hgw := hp.gw
  obtain ⟨pz, pf, pn⟩ := hp.z
  have pd := hp.d
  have hB := hp.B
  have wgl : g < wr.heap.size := by omega
  have y0 : wr.cell? ⟨g, r.length * 5, none⟩ = some (.int .i64 (f.kind : Nat)) := (hst.cellAt (r.length * 5) (by omega)).trans (snocAt (j := 0) (f5Cells_len r))
  have y1 : wr.cell? ⟨g, r.length * 5 + 1, none⟩ = some (.string f.nm) := (hst.cellAt (r.length * 5 + 1) (by omega)).trans (snocAt (j := 1) (f5Cells_len r))
  have y2 : wr.cell? ⟨g, r.length * 5 + 2, none⟩ = some (.slice none 0 0) := (hst.cellAt (r.length * 5 + 2) (by omega)).trans (snocAt (j := 2) (f5Cells_len r))
  have y3 : wr.cell? ⟨g, r.length * 5 + 3, none⟩ = some (.slice (some ⟨h, 0, none⟩) (f.kids.length + 1) cap) := (hst.cellAt (r.length * 5 + 3) (by omega)).trans (snocAt (j := 3) (f5Cells_len r))
  have y4 : wr.cell? ⟨g, r.length * 5 + 4, none⟩ = some (.bool f.closed) := (hst.cellAt (r.length * 5 + 4) (by omega)).trans (snocAt (j := 4) (f5Cells_len r))
  have yf0 := hst.frozenAt (r.length * 5)
  have q9 : (r.length : Int) ≤ (cq : Int) := by
    rcases hst.2 with ⟨h2, _⟩ | ⟨b1, c1, cu1, e1, _, q1, hcc, _⟩
    · cases h2
    · simp only [Value.slice.injEq] at e1
      omega
  have q5 : (0 : Int) ≤ (r.length : Int) := by omega
  have q6 : (r.length : Int) < (r.length : Int) + 1 := by omega
  have q10 : (r.length : Int) ≤ (r.length : Int) + 1 := by omega
  obtain ⟨e0, e1, e2, e3, rfl⟩ : ∃ e0 e1 e2 e3, dc = [e0, e1, e2, e3] := ⟨_, _, _, _, hdc⟩
  have HP := Lib.hid hp
  have HST := Lib.hid hst
  have HB := Lib.hid hB
  clear hst hB
  clear hp
  have pz_0 := cv0 pz
  have pz_1 := cv1 pz
  have pz_2 := cv2 pz
  have pz_3 := cv3 pz
  have pz_f0 := free_heap pz 0
  have pz_f1 := free_heap pz 1
  have pz_f2 := free_heap pz 2
  have pz_f3 := free_heap pz 3
  have pz_l := lt_heap pz
  have PZ := Lib.hid pz
  clear pz
  have pf_0 := cv0 pf
  have pf_1 := cv1 pf
  have pf_f0 := free_heap pf 0
  have pf_f1 := free_heap pf 1
  have pf_l := lt_heap pf
  have PF := Lib.hid pf
  clear pf
  have pn_0 := cv0 pn
  have pn_1 := cv1 pn
  have pn_2 := cv2 pn
  have pn_3 := cv3 pn
  have pn_l := lt_heap pn
  have PN := Lib.hid pn
  clear pn
  have pd_0 := cv0 pd
  have pd_1 := cv1 pd
  have pd_2 := cv2 pd
  have pd_3 := cv3 pd
  have pd_f0 := free_heap pd 0
  have pd_f1 := free_heap pd 1
  have pd_f2 := free_heap pd 2
  have pd_f3 := free_heap pd 3
  have pd_l := lt_heap pd
  have PD := Lib.hid pd
  clear pd
  go_wp2_with fail
  refine gen_last (fun wx => PopF w wx r (some ⟨g, 0, none⟩) cq D lo v' [.int .i64 (f.kind : Nat), .string f.nm, .slice none 0 0, .slice (some ⟨h, 0, none⟩) (f.kids.length + 1) cap]) ?_ (fun wx h9 => by exact HN.out _ _ wx (id ⟨rfl, rfl, rfl, rfl, rfl, rfl, rfl, rfl, rfl, rfl, trivial⟩) h9)
  exact HP.out.close hv

end Go.Proofs.YtnoceodmnjhljabDoor
