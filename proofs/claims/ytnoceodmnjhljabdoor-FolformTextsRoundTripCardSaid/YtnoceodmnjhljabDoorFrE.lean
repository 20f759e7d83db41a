/-
  FormRead by parts: the inner loop: the append.
-/
import Derived.Test.YtnoceodmnjhljabDoorFrH
import Derived.Deep.DeepCutAuto
import Derived.Deep.RegionLaw
import Derived.BigQuiet
namespace Go.Proofs.YtnoceodmnjhljabDoor
open Go Go.RowKit
set_option linter.unusedSimpArgs false
set_option linter.unusedVariables false

/-- At the inner loop's head: the formula that is done lies in the box D, the stack below hi. -/
structure PopF (w u : World) (frs : List F5) (Aq : Option Addr) (cq D hi : Nat) (v : Fv) (dc : List Value) : Prop where
  m : GMem w u frs Aq cq hi
  hle : hi ≤ D
  dl : D < u.heap.size
  d : u.heap[D]? = some (.cells dc.toArray 34 (0, 0))
  r : fmRep.R u (fun b => hi ≤ b ∧ b < u.heap.size ∧ (Value.slice Aq frs.length cq).ownBlock ≠ some b ∧ b ≠ D) v.fm dc
  q : ∀ q, (Value.slice Aq frs.length cq).ownBlock = some q → q < D
/-- Behind the append: the innermost frame's parts bear one more; its kind is kd. -/
structure TopF (w u : World) (f : Ff) (r : List F5) (g cq D lo h cap : Nat) (v : Fv) (dc : List Value) (kd : Nat) : Prop where
  st : u.ownsRow (w.heap.size + 3) 63 5 (.slice (some ⟨g, 0, none⟩) (r.length + 1) cq) (r.length + 1) (f5Cells r ++ [.int .i64 (kd : Nat), .string f.nm, .slice none 0 0, .slice (some ⟨h, 0, none⟩) (f.kids.length + 1) cap, .bool f.closed])
  nm : f.nm.size ≤ maxLen
  own : fmRep.Own 34 lo u (fun b => lo ≤ b ∧ b < u.heap.size ∧ some g ≠ some b ∧ b ≠ D) (.slice (some ⟨h, 0, none⟩) (f.kids.length + 1) cap) (f.kids ++ [v.fm])
  fs : GsOk u (some g) (w.heap.size + 3) r lo
  z : (u.heap[w.heap.size]? = some (.cells #[.int .i64 0, .string ⟨#[]⟩, .slice none 0 0, .slice none 0 0] 34 (0, 0)) ∧ u.heap[w.heap.size + 1]? = some (.cells #[.int .i64 0, .int .i64 0] 27 (0, 0)) ∧ u.heap[w.heap.size + 2]? = some (.cells #[.int .i64 0, .string ⟨#[]⟩, .slice none 0 0, .slice none 0 0] 34 (0, 0)))
  d : u.heap[D]? = some (.cells dc.toArray 34 (0, 0))
  B : Below w.heap.size w u
  dl : D < u.heap.size
  gl : g < D
  ll : lo ≤ D
  h1 : lo ≤ h
  h2 : h < u.heap.size
  h3 : some g ≠ some h
  h4 : h ≠ D
  gw : w.heap.size + 3 ≤ g
section
variable {w u : World} {f : Ff} {r : List F5} {g cq D lo h cap kd : Nat} {v : Fv} {dc : List Value}
/-- The frame is full: it is the formula that is done. -/
theorem TopF.close {v' : Fv} {e0 e1 e2 e3 : Value} (hp : TopF w u f r g cq D lo h cap v [e0, e1, e2, e3] f.kind) (hv : v'.fm = .mk ⟨f.kind, f.nm, []⟩ (f.kids ++ [v.fm])) :
    PopF w ((((u.setCell ⟨D, 0, none⟩ (.int .i64 (f.kind : Nat))).setCell ⟨D, 1, none⟩ (.string f.nm)).setCell ⟨D, 2, none⟩ (.slice none 0 0)).setCell ⟨D, 3, none⟩ (.slice (some ⟨h, 0, none⟩) (f.kids.length + 1) cap)) r (some ⟨g, 0, none⟩) cq D lo v' [.int .i64 (f.kind : Nat), .string f.nm, .slice none 0 0, .slice (some ⟨h, 0, none⟩) (f.kids.length + 1) cap] := by
  obtain ⟨hst, hnm, how, hfs, ⟨hz1, hz2, hz3⟩, hd, hB, hdl, hgl, hll, hh1, hh2, hh3, hh4, hgw⟩ := hp
  have hlb := GsOk.base hfs
  have hfx : ∀ (v0 v1 v2 v3 : Value) b, b ≠ D → ((((u.setCell ⟨D, 0, none⟩ v0).setCell ⟨D, 1, none⟩ v1).setCell ⟨D, 2, none⟩ v2).setCell ⟨D, 3, none⟩ v3).heap[b]? = u.heap[b]? := fun v0 v1 v2 v3 b hb => far4 (i := 0) hb rfl
  refine ⟨⟨?_, ?_, ⟨far4 (i := 0) (by omega) hz1, far4 (i := 0) (by omega) hz2, far4 (i := 0) (by omega) hz3⟩, below4 hB (by omega)⟩, hll, lt4 hdl, at4 hd, ?_, fun q e => by have e2 : g = q := Option.some.inj e; omega⟩
  · exact oth4 (i := 0) (fun e => by have e2 : g = D := Option.some.inj e; omega) (ownsRow_pop (f5Cells_len r) hst)
  · exact hfs.keep (fun b h1 h2 h3 => hfx _ _ _ _ b (by omega)) (fun _ _ e => e) (Nat.le_refl _)
  · rw [hv]
    refine Fm.shut (a := ⟨f.kind, f.nm, []⟩) hnm Rep.Sl.nil ?_
    have hk : (f.kids ++ [v.fm]).length ≤ maxLen := by cases f <;> simp [Ff.kids, maxLen]
    exact (how.keepS (S' := fun b => lo ≤ b ∧ b < u.heap.size ∧ some g ≠ some b ∧ b ≠ D) (fun b _ e => hfx _ _ _ _ b (by have e2 : h = b := Option.some.inj e; omega)) (fun b hb _ => hfx _ _ _ _ b hb.2.2.2) (fun _ hb => hb)).slS hk (fun b hb => ⟨hb.1, lt4 hb.2.1, hb.2.2.1, hb.2.2.2⟩) (fun b e => by have e2 : h = b := Option.some.inj e; subst e2; exact ⟨hh1, lt4 hh2, hh3, hh4⟩)
/-- The frame's kind is stored. -/
theorem TopF.kind (hp : TopF w u f r g cq D lo h cap v dc kd) (k : Nat) : TopF w (u.setCell ⟨g, r.length * 5, none⟩ (.int .i64 (k : Nat))) f r g cq D lo h cap v dc k := by
  obtain ⟨hst, hnm, how, hfs, ⟨hz1, hz2, hz3⟩, hd, hB, hdl, hgl, hll, hh1, hh2, hh3, hh4, hgw⟩ := hp
  have hlb := GsOk.base hfs
  have hgo : ∀ b, b ≠ g → (u.setCell ⟨g, r.length * 5, none⟩ (.int .i64 (k : Nat))).heap[b]? = u.heap[b]? := fun b hb => heap_far _ hb rfl
  have hs := rowSet hst (i := r.length * 5) (by omega) (.int .i64 (k : Nat))
  rw [show r.length * 5 = r.length * 5 + 0 from rfl, set_at (f5Cells_len r) 0] at hs
  refine ⟨hs, hnm, how.keepS (fun b _ e => hgo b (fun e2 => hh3 (by rw [← e2]; exact e.symm))) (fun b hb _ => hgo b (fun e => hb.2.2.1 (by rw [e]))) (fun b hb => ⟨hb.1, by rw [size_set]; exact hb.2.1, hb.2.2⟩), hfs.keep (fun b h1 h2 h3 => hgo b (fun e => h3 (by rw [e]))) (fun _ _ e => e) (Nat.le_refl _), ⟨(hgo _ (by omega)).trans hz1, (hgo _ (by omega)).trans hz2, (hgo _ (by omega)).trans hz3⟩, (hgo _ (by omega)).trans hd, hB.setCell (show w.heap.size ≤ g by omega) _, by rw [size_set]; exact hdl, hgl, hll, hh1, by rw [size_set]; exact hh2, hh3, hh4, hgw⟩
/-- The first part is read: the frame awaits the second. -/
theorem TopF.par1 (hp : TopF w u .par0 r g cq D lo h cap v dc kd) : GMem w u (⟨.par1 kd v, .slice (some ⟨h, 0, none⟩) (0 + 1) cap⟩ :: r) (some ⟨g, 0, none⟩) cq u.heap.size := by
  obtain ⟨hst, hnm, how, hfs, hz, hd, hB, hdl, hgl, hll, hh1, hh2, hh3, hh4, hgw⟩ := hp
  refine ⟨?_, ⟨lo, by omega, ⟨hnm, how.keepS (fun _ _ _ => rfl) (fun _ _ _ => rfl) (fun b hb => ⟨hb.1, hb.2.1, hb.2.2.1⟩), fun b e => by injection e with e; subst e; exact ⟨hh1, hh2, hh3⟩⟩, hfs⟩, hz, hB⟩
  rw [f5Cells_cons]
  exact hst
end
def Fresh2 (w w' : World) : Nat → Prop := fun b => w.heap.size ≤ b ∧ b < w'.heap.size
noncomputable def c_fr_f331n : Code := sub [1, 1, 1, 1, 1, 0, 0, 0, 1, 1, 1, 1, 1, 1, 1, 1, 0, 0, 0, 0] (Tryd.f12.body.getD .skip)
set_option maxRecDepth 1000000 in
set_option maxHeartbeats 16000000 in
theorem fr_f331n_wp {Q : Exit → Act → World → Prop} {x : ByteArray} {w wr : World} {i n : Nat} {D hi : Nat} {v : Fv} {dc : List Value} {Aq : Option Addr} {cq : Nat} (hp : PopF w wr [] Aq cq D hi v dc) (hM : i < x.size → ∀ a' w', Frm 464 [(2, .pointer (some ⟨w.heap.size, 0, none⟩)), (3, .pointer (some ⟨w.heap.size + 1, 0, none⟩))] a' → w'.heap[w.heap.size]? = some (.cells #[.int .i64 0, .string ⟨#[]⟩, .slice none 0 0, .slice none 0 0] 34 (0, 0)) → w'.heap[w.heap.size + 1]? = some (.cells #[.int .i64 11, .int .i64 (i : Nat)] 27 (0, 0)) → Below w.heap.size w w' → Q .ret a' w') (hG : ¬ i < x.size → ∀ (es : List Value) a' w', Frm 464 [(2, .pointer (some ⟨w.heap.size, 0, none⟩)), (3, .pointer (some ⟨w.heap.size + 1, 0, none⟩))] a' → w'.heap[w.heap.size]? = some (.cells es.toArray 34 (0, 0)) → w'.heap[w.heap.size + 1]? = some (.cells #[.int .i64 0, .int .i64 0] 27 (0, 0)) → Below w.heap.size w w' → fmRep.R w' (Fresh2 w w') v.fm es → Q .ret a' w') : ∀ ac, Frm 464 [(0, .string x), (2, .pointer (some ⟨w.heap.size, 0, none⟩)), (3, .pointer (some ⟨w.heap.size + 1, 0, none⟩)), (4, .pointer (some ⟨w.heap.size + 2, 0, none⟩)), (5, .slice Aq 0 cq), (6, .int .i64 (i : Nat)), (7, .int .i64 (n : Nat)), (9, .pointer (some ⟨D, 0, none⟩))] ac → Code.wp Tryd.prog c_fr_f331n Q ac wr := by
  refine frm_open ?_
  refine frame_fr ?_
  intros
  rename_i hq
  obtain ⟨-, -, e0q, e1q, e2q, e3q, e4q, e5q, e6q, e7q, -⟩ := hq
  have e0q := (Option.some.inj e0q).symm; subst e0q
  have e1q := (Option.some.inj e1q).symm; subst e1q
  have e2q := (Option.some.inj e2q).symm; subst e2q
  have e3q := (Option.some.inj e3q).symm; subst e3q
  have e4q := (Option.some.inj e4q).symm; subst e4q
  have e5q := (Option.some.inj e5q).symm; subst e5q
  have e6q := (Option.some.inj e6q).symm; subst e6q
  have e7q := (Option.some.inj e7q).symm; subst e7q
  conv => arg 2; whnf
  have HM := Lib.hid hM
  have HG := Lib.hid hG
  clear hM hG
  obtain ⟨A1, n1, c1, B1, m1, d1, rfl, _, _, _, _⟩ := Fm.shape hp.r
  have hin := hp.r
  have hD := hp.dl
  have hbz := GsOk.base hp.m.fs
  have hhi := hp.hle
  obtain ⟨hown, hfrs, ⟨pz, pf, pn⟩, hB⟩ := hp.m
  have pd := hp.d
  have hqo := hp.q
  clear hp
  have HOWN := Lib.hid hown
  have HFRS := Lib.hid hfrs
  have HB := Lib.hid hB
  have HIN := Lib.hid hin
  have HQO := Lib.hid hqo
  clear hown hfrs hB hin hqo
  have pz_0 := cv0 pz
  have pz_1 := cv1 pz
  have pz_2 := cv2 pz
  have pz_3 := cv3 pz
  have pz_f0 := free_heap pz 0
  have pz_f1 := free_heap pz 1
  have pz_f2 := free_heap pz 2
  have pz_f3 := free_heap pz 3
  have pz_l := lt_heap pz
  have PZ := Lib.hid pz
  clear pz
  have pf_0 := cv0 pf
  have pf_1 := cv1 pf
  have pf_f0 := free_heap pf 0
  have pf_f1 := free_heap pf 1
  have pf_l := lt_heap pf
  have PF := Lib.hid pf
  clear pf
  have pn_0 := cv0 pn
  have pn_1 := cv1 pn
  have pn_2 := cv2 pn
  have pn_3 := cv3 pn
  have pn_l := lt_heap pn
  have PN := Lib.hid pn
  clear pn
  have pd_0 := cv0 pd
  have pd_1 := cv1 pd
  have pd_2 := cv2 pd
  have pd_3 := cv3 pd
  have pd_f0 := free_heap pd 0
  have pd_f1 := free_heap pd 1
  have pd_f2 := free_heap pd 2
  have pd_f3 := free_heap pd 3
  have pd_l := lt_heap pd
  have PD := Lib.hid pd
  clear pd
  have hnil : (((List.length ([] : List F5) : Nat) : Int) == 0) = true := rfl
  simp only [List.length_nil, Int.natCast_zero] at hnil
  by_cases hlt : i < x.size
  · have q1 : (i : Int) < (x.size : Int) := by omega
    have HR := Lib.hid (HM.out hlt)
    go_wp2_with fail
    exact HR.out _ _ (id ⟨rfl, rfl, rfl, rfl, trivial⟩) (far2 (by omega) (at4 PZ.out)) (at2 (far4 (by omega) PF.out)) (below2 (below4 HB.out (Nat.le_refl _)) (by omega))
  have q1 : ¬ (i : Int) < (x.size : Int) := by omega
  have hg := HG.out hlt
  have HG2 := Lib.hid hg
  clear hg
  go_wp2_with fail
  refine HG2.out [.int .i64 v.fm.lab.kind, .string v.fm.lab.nm, .slice A1 n1 c1, .slice B1 m1 d1] _ _ (id ⟨rfl, rfl, rfl, rfl, trivial⟩) (far2 (by omega) (at4 PZ.out)) (at2 (far4 (by omega) PF.out)) (below2 (below4 HB.out (Nat.le_refl _)) (by omega)) ?_
  exact fmRep.keep HIN.out (fun b hb => far2 (by have := hb.1; omega) (far4 (i := 0) (by have := hb.1; omega) rfl)) (fun b hb => ⟨by have := hb.1; omega, le2 (le4 (by have := hb.2.1; omega))⟩)
noncomputable def c_fr_f331c : Code := sub [1, 1, 1, 1, 1, 0, 0, 0, 1, 1, 1, 1, 1, 1, 1, 1, 0, 0, 0, 0] (Tryd.f12.body.getD .skip)
set_option maxRecDepth 1000000 in
set_option maxHeartbeats 16000000 in
theorem fr_f331c_wp {Q : Exit → Act → World → Prop} {x : ByteArray} {w wr : World} {i n D : Nat} {Aq : Option Addr} {cq : Nat} {r : List F5} (hN : ∀ a', Frm 464 [(0, .string x), (2, .pointer (some ⟨w.heap.size, 0, none⟩)), (3, .pointer (some ⟨w.heap.size + 1, 0, none⟩)), (4, .pointer (some ⟨w.heap.size + 2, 0, none⟩)), (5, .slice Aq (r.length + 1) cq), (6, .int .i64 (i : Nat)), (7, .int .i64 (n : Nat)), (9, .pointer (some ⟨D, 0, none⟩))] a' → Q .normal a' wr) : ∀ ac, Frm 464 [(0, .string x), (2, .pointer (some ⟨w.heap.size, 0, none⟩)), (3, .pointer (some ⟨w.heap.size + 1, 0, none⟩)), (4, .pointer (some ⟨w.heap.size + 2, 0, none⟩)), (5, .slice Aq (r.length + 1) cq), (6, .int .i64 (i : Nat)), (7, .int .i64 (n : Nat)), (9, .pointer (some ⟨D, 0, none⟩))] ac → Code.wp Tryd.prog c_fr_f331c Q ac wr := by
  refine frm_open ?_
  refine frame_fr ?_
  intros
  rename_i hq
  obtain ⟨-, -, e0q, e1q, e2q, e3q, e4q, e5q, e6q, e7q, -⟩ := hq
  have e0q := (Option.some.inj e0q).symm; subst e0q
  have e1q := (Option.some.inj e1q).symm; subst e1q
  have e2q := (Option.some.inj e2q).symm; subst e2q
  have e3q := (Option.some.inj e3q).symm; subst e3q
  have e4q := (Option.some.inj e4q).symm; subst e4q
  have e5q := (Option.some.inj e5q).symm; subst e5q
  have e6q := (Option.some.inj e6q).symm; subst e6q
  have e7q := (Option.some.inj e7q).symm; subst e7q
  conv => arg 2; whnf
  have HN := Lib.hid hN
  clear hN
  have hnil : (((r.length + 1 : Nat) : Int) == 0) = false := beq_eq_false_iff_ne.2 (by omega)
  have hnil2 : ((r.length : Int) + 1 == 0) = false := beq_eq_false_iff_ne.2 (by omega)
  go_wp2_with fail
  exact HN.out _ (id ⟨rfl, rfl, rfl, rfl, rfl, rfl, rfl, rfl, rfl, rfl, trivial⟩)
noncomputable def c_fr_f75 : Code := sub [1, 1, 1, 1, 1, 0, 0, 0, 1, 1, 1, 1, 1, 1, 1, 1, 0, 0, 0, 1, 0] (Tryd.f12.body.getD .skip)
set_option maxRecDepth 1000000 in
set_option maxHeartbeats 16000000 in
theorem fr_f75_wp {Q : Exit → Act → World → Prop} {x : ByteArray} {w wr : World} {i n D : Nat} {Aq : Option Addr} {cq : Nat} {r : List F5} (hl : r.length ≤ 100) (hN : ∀ a', Frm 464 [(0, .string x), (2, .pointer (some ⟨w.heap.size, 0, none⟩)), (3, .pointer (some ⟨w.heap.size + 1, 0, none⟩)), (4, .pointer (some ⟨w.heap.size + 2, 0, none⟩)), (5, .slice Aq (r.length + 1) cq), (6, .int .i64 (i : Nat)), (7, .int .i64 (n : Nat)), (9, .pointer (some ⟨D, 0, none⟩)), (23, .int .i64 (r.length : Nat))] a' → Q .normal a' wr) : ∀ ac, Frm 464 [(0, .string x), (2, .pointer (some ⟨w.heap.size, 0, none⟩)), (3, .pointer (some ⟨w.heap.size + 1, 0, none⟩)), (4, .pointer (some ⟨w.heap.size + 2, 0, none⟩)), (5, .slice Aq (r.length + 1) cq), (6, .int .i64 (i : Nat)), (7, .int .i64 (n : Nat)), (9, .pointer (some ⟨D, 0, none⟩))] ac → Code.wp Tryd.prog c_fr_f75 Q ac wr := by
  refine frm_open ?_
  refine frame_fr ?_
  intros
  rename_i hq
  obtain ⟨-, -, e0q, e1q, e2q, e3q, e4q, e5q, e6q, e7q, -⟩ := hq
  have e0q := (Option.some.inj e0q).symm; subst e0q
  have e1q := (Option.some.inj e1q).symm; subst e1q
  have e2q := (Option.some.inj e2q).symm; subst e2q
  have e3q := (Option.some.inj e3q).symm; subst e3q
  have e4q := (Option.some.inj e4q).symm; subst e4q
  have e5q := (Option.some.inj e5q).symm; subst e5q
  have e6q := (Option.some.inj e6q).symm; subst e6q
  have e7q := (Option.some.inj e7q).symm; subst e7q
  conv => arg 2; whnf
  have HN := Lib.hid hN
  clear hN
  have hp2 : ((r.length + 1 : Nat) : Int) - 1 = (r.length : Int) := by omega
  have hp3 : (r.length : Int) + 1 - 1 = (r.length : Int) := by omega
  go_wp2_with fail
  exact HN.out _ (id ⟨rfl, rfl, rfl, rfl, rfl, rfl, rfl, rfl, rfl, rfl, rfl, trivial⟩)
noncomputable def c_fr_f76 : Code := sub [1, 1, 1, 1, 1, 0, 0, 0, 1, 1, 1, 1, 1, 1, 1, 1, 0, 0, 0, 1, 1, 0] (Tryd.f12.body.getD .skip)
set_option maxRecDepth 1000000 in
set_option maxHeartbeats 16000000 in
theorem fr_f76_wp {K : Act → World → Prop} {x : ByteArray} {w wr : World} {i n : Nat} {D hi : Nat} {v : Fv} {dc : List Value} {Aq : Option Addr} {cq : Nat} {f : Ff} {pa : Value} {r : List F5} (hl : r.length ≤ 100) (hp : PopF w wr (⟨f, pa⟩ :: r) Aq cq D hi v dc) (hN : ∀ (g lo h cap : Nat) (dc : List Value) a' wx, Aq = some ⟨g, 0, none⟩ → dc = [dc.getD 0 undef, dc.getD 1 undef, dc.getD 2 undef, dc.getD 3 undef] → Frm 464 [(0, .string x), (2, .pointer (some ⟨w.heap.size, 0, none⟩)), (3, .pointer (some ⟨w.heap.size + 1, 0, none⟩)), (4, .pointer (some ⟨w.heap.size + 2, 0, none⟩)), (5, .slice Aq (r.length + 1) cq), (6, .int .i64 (i : Nat)), (7, .int .i64 (n : Nat)), (9, .pointer (some ⟨D, 0, none⟩)), (23, .int .i64 (r.length : Nat))] a' → TopF w wx f r g cq D lo h cap v dc f.kind → K a' wx) : ∀ ac, Frm 464 [(0, .string x), (2, .pointer (some ⟨w.heap.size, 0, none⟩)), (3, .pointer (some ⟨w.heap.size + 1, 0, none⟩)), (4, .pointer (some ⟨w.heap.size + 2, 0, none⟩)), (5, .slice Aq (r.length + 1) cq), (6, .int .i64 (i : Nat)), (7, .int .i64 (n : Nat)), (9, .pointer (some ⟨D, 0, none⟩)), (23, .int .i64 (r.length : Nat))] ac → Code.wp Tryd.prog c_fr_f76 (Exit.then K (fun _ _ _ => False)) ac wr := by
  refine frm_open ?_
  refine frame_fr ?_
  intros
  rename_i hq
  obtain ⟨-, -, e0q, e1q, e2q, e3q, e4q, e5q, e6q, e7q, e8q, -⟩ := hq
  have e0q := (Option.some.inj e0q).symm; subst e0q
  have e1q := (Option.some.inj e1q).symm; subst e1q
  have e2q := (Option.some.inj e2q).symm; subst e2q
  have e3q := (Option.some.inj e3q).symm; subst e3q
  have e4q := (Option.some.inj e4q).symm; subst e4q
  have e5q := (Option.some.inj e5q).symm; subst e5q
  have e6q := (Option.some.inj e6q).symm; subst e6q
  have e7q := (Option.some.inj e7q).symm; subst e7q
  have e8q := (Option.some.inj e8q).symm; subst e8q
  conv => arg 2; whnf
  have HN := Lib.hid hN
  clear hN
  obtain ⟨tj, htj, htj0, htj1, htj2⟩ := info_parts infoForm
  obtain ⟨A1, n1, c1, B1, m1, d1, rfl, _, _, _, _⟩ := Fm.shape hp.r
  have hin := hp.r
  have hD := hp.dl
  have hbz := GsOk.base hp.m.fs
  have hhi := hp.hle
  obtain ⟨hown, hfrs, ⟨pz, pf, pn⟩, hB⟩ := hp.m
  have pd := hp.d
  have hqo := hp.q
  clear hp
  have HOWN := Lib.hid hown
  have HFRS := Lib.hid hfrs
  have HB := Lib.hid hB
  have HIN := Lib.hid hin
  have HQO := Lib.hid hqo
  clear hown hfrs hB hin hqo
  have pz_0 := cv0 pz
  have pz_1 := cv1 pz
  have pz_2 := cv2 pz
  have pz_3 := cv3 pz
  have pz_f0 := free_heap pz 0
  have pz_f1 := free_heap pz 1
  have pz_f2 := free_heap pz 2
  have pz_f3 := free_heap pz 3
  have pz_l := lt_heap pz
  have PZ := Lib.hid pz
  clear pz
  have pf_0 := cv0 pf
  have pf_1 := cv1 pf
  have pf_f0 := free_heap pf 0
  have pf_f1 := free_heap pf 1
  have pf_l := lt_heap pf
  have PF := Lib.hid pf
  clear pf
  have pn_0 := cv0 pn
  have pn_1 := cv1 pn
  have pn_2 := cv2 pn
  have pn_3 := cv3 pn
  have pn_l := lt_heap pn
  have PN := Lib.hid pn
  clear pn
  have pd_0 := cv0 pd
  have pd_1 := cv1 pd
  have pd_2 := cv2 pd
  have pd_3 := cv3 pd
  have pd_f0 := free_heap pd 0
  have pd_f1 := free_heap pd 1
  have pd_f2 := free_heap pd 2
  have pd_f3 := free_heap pd 3
  have pd_l := lt_heap pd
  have PD := Lib.hid pd
  clear pd
  obtain ⟨lo, hlo, hp, hrest⟩ := HFRS.out
  have hl1 : (((⟨f, pa⟩ : F5) :: r).length) = r.length + 1 := rfl
  rw [hl1] at HOWN HIN HQO hp hrest
  obtain ⟨g, capg, hAg, hgb, hgl⟩ := HOWN.out.form (by omega)
  injection hAg with hAg1 hAg2 hAg3
  subst hAg1 hAg3
  have hgD : g < D := HQO.out g rfl
  obtain ⟨old, cold, hpa⟩ := hp.2.1.len
  simp only at hpa
  subst hpa
  obtain ⟨xs, hvo, hall⟩ := hp.2.1
  simp only at hvo hall
  have hm1 : f.kids.length ≤ 1 := by cases f <;> simp [Ff.kids]
  have hvlo : ∀ b, (Value.slice old f.kids.length cold).ownBlock = some b → lo ≤ b ∧ b < hi ∧ some g ≠ some b := hp.2.2
  have hcells : ∀ j u, (F5.cells ⟨f, .slice old f.kids.length cold⟩)[j]? = some u → wr.cell? ⟨g, r.length * 5 + j, none⟩ = some u := by
    intro j u hj
    have hj2 : j < 5 := (List.getElem?_eq_some_iff.1 hj).1
    rw [HOWN.out.cellAt _ (by omega), f5Cells_cons, List.getElem?_append_right (by rw [f5Cells_len]; omega), f5Cells_len, show r.length * 5 + j - r.length * 5 = j by omega]
    exact hj
  have e5 : wr.cell? ⟨g, r.length * 5 + 3, none⟩ = some (.slice old f.kids.length cold) := hcells 3 _ rfl
  have e5f := HOWN.out.frozenAt (r.length * 5 + 3)
  have HP := Lib.hid hp
  have hneg : (Value.slice old f.kids.length cold).ownBlock ≠ some g := fun e => (hvlo g e).2.2 rfl
  have hneD : (Value.slice old f.kids.length cold).ownBlock ≠ some D := fun e => by have := (hvlo D e).2.1; omega
  have HVO := Lib.hid hvo
  have HALL := Lib.hid hall
  have HVLO := Lib.hid hvlo
  have HREST := Lib.hid hrest
  have HNEG := Lib.hid hneg
  have HNED := Lib.hid hneD
  clear hp hvo hall hvlo hrest hneg hneD hcells hl1
  have hloz : lo ≤ wr.heap.size := by omega
  have hlb := GsOk.base HREST.out
  have hfin : ∀ wx h cap, Apd5 wr wx (w.heap.size + 3) g r.length cq (.slice old f.kids.length cold) lo f.kids.length xs (f5Cells r) [.int .i64 v.fm.lab.kind, .string v.fm.lab.nm, .slice A1 n1 c1, .slice B1 m1 d1] (.int .i64 (f.kind : Nat)) (.string f.nm) (.bool f.closed) h cap D → TopF w wx f r g cq D lo h cap v [.int .i64 v.fm.lab.kind, .string v.fm.lab.nm, .slice A1 n1 c1, .slice B1 m1 d1] f.kind := by
    intro wx h cap hap
    obtain ⟨how, hh1, hh2, hh3, hh4⟩ := hap.own (p := ⟨f, .slice old f.kids.length cold⟩) HP.out HALL.out HIN.out (by omega) (by omega) hD
    have hxs := hap.sz
    have hold : ∀ b, b < w.heap.size + 3 → (Value.slice old f.kids.length cold).ownBlock ≠ some b := fun b hb e => by have := (HVLO.out b e).1; omega
    exact ⟨hap.st, HP.out.1, how, HREST.out.keep (w' := wx) (fun b h1 h2 h3 => hap.keep b (by omega) (fun e => h3 (by rw [e]; rfl)) (fun e => by have := (HVLO.out b e).1; omega)) (fun b _ (e : some g = some b) => e) (Nat.le_refl _),
      ⟨(hap.keep w.heap.size pz_l (by omega) (hold _ (by omega))).trans PZ.out, (hap.keep (w.heap.size + 1) pf_l (by omega) (hold _ (by omega))).trans PF.out, (hap.keep (w.heap.size + 2) pn_l (by omega) (hold _ (by omega))).trans PN.out⟩,
      (hap.keep D hD (by omega) HNED.out).trans PD.out, HB.out.trans ⟨hap.os, hap.tape, hap.output, hap.sz, fun b hb => hap.keep b (by omega) (by omega) (hold b (by omega))⟩, by omega, hgD, by omega, hh1, hh2, hh3, hh4, hgb⟩
  have HFIN := Lib.hid hfin
  clear hfin
  have htop := HOWN.out
  rw [f5Cells_cons] at htop
  have HTOP := Lib.hid htop
  clear htop
  generalize hmm : f.kids.length = m at *
  have q5 : (0 : Int) ≤ (r.length : Int) := by omega
  have q6 : (r.length : Int) < (r.length : Int) + 1 := by omega
  have q7 : (0 : Int) ≤ (m : Int) := by omega
  have q8 : (m : Int) < (m : Int) + 1 := by omega
  clear pz_0 pz_1 pz_2 pz_3 pz_f0 pz_f1 pz_f2 pz_f3 pf_0 pf_1 pf_f0 pf_f1 pn_0 pn_1 pn_2 pn_3 pd_f0 pd_f1 pd_f2 pd_f3
  go_region_law ((refine step_append_lies _ (by rfl) (.tmp 349) (.tmp 352) _ (by rfl) lo 34 tj _ 4 72 Tryd.underlying32 htj htj0 htj1 htj2 rfl (by omega) (.slice old m cold) m xs (by rfl) (HVO.out.alloc _).drew ⟨wr.heap.size, 0, none⟩ 1 1 [.int .i64 0, .string ⟨#[]⟩, .slice none 0 0, .slice none 0 0] (by rfl) (by rfl) (World.news_of_block (cs := #[.int .i64 0, .string ⟨#[]⟩, .slice none 0 0, .slice none 0 0]) (t := 34) (fr := (0, 0)) (heap_alloc_new wr _)) (by simp [Value.oneCell']) (by omega) (by unfold maxLen; omega) (by omega) (by simp; omega) (wr.heap.size + 1) (by simp) ?_; intro gg cap w3 hown3 hgrow hat hlt; have kk : ∀ b, b < wr.heap.size → (Value.slice old m cold).ownBlock ≠ some b → w3.heap[b]? = wr.heap[b]? := (fun b hb hne => (hgrow.block b (by simp; omega) (fun e => hne e.symm)).trans (heap_old hb rfl)); have y5 := (cell_keep (kk g hgl HNEG.out) (r.length * 5 + 3)).trans e5; have y5f := (World.frozen?_of_block (a := ⟨g, r.length * 5 + 3, none⟩) (kk g hgl HNEG.out)).trans e5f; have yd0 := (cell_keep (kk _ pd_l HNED.out) 0).trans pd_0; have yd1 := (cell_keep (kk _ pd_l HNED.out) 1).trans pd_1; have yd2 := (cell_keep (kk _ pd_l HNED.out) 2).trans pd_2; have yd3 := (cell_keep (kk _ pd_l HNED.out) 3).trans pd_3; have zm0 := (hown3.cellAt (m * 4) (by omega)).trans (snocAt (j := 0) HVO.out.1); have zm1 := (hown3.cellAt (m * 4 + 1) (by omega)).trans (snocAt (j := 1) HVO.out.1); have zm2 := (hown3.cellAt (m * 4 + 2) (by omega)).trans (snocAt (j := 2) HVO.out.1); have zm3 := (hown3.cellAt (m * 4 + 3) (by omega)).trans (snocAt (j := 3) HVO.out.1); have zf0 := hown3.frozenAt (m * 4); have zf1 := hown3.frozenAt (m * 4 + 1); have zf2 := hown3.frozenAt (m * 4 + 2); have zf3 := hown3.frozenAt (m * 4 + 3); have ne1 : g ≠ gg := (by rintro rfl; rcases hat with h | h; exact HNEG.out h; omega); have ne2 : D ≠ gg := (by rintro rfl; rcases hat with h | h; exact HNED.out h; omega); have KK := Lib.hid kk; have HOWN3 := Lib.hid hown3; have HGROW := Lib.hid hgrow; have HAT := Lib.hid hat; clear kk hown3 hgrow hat; have apx := apd5 (d0 := .int .i64 v.fm.lab.kind) (d1 := .string v.fm.lab.nm) (d2 := .slice A1 n1 c1) (d3 := .slice B1 m1 d1) HTOP.out (f5Cells_len r) HVO.out.1 hgl HOWN3.out HGROW.out HAT.out hlt HNEG.out (fun e => ne2 e.symm); have X1 := Lib.hid apx.1; have X2 := Lib.hid apx.2; clear apx))
  all_goals
    go_wp2_with fail
    refine gen_last (fun wx => Apd5 wr wx (w.heap.size + 3) g r.length cq (.slice old m cold) lo m xs (f5Cells r) [.int .i64 v.fm.lab.kind, .string v.fm.lab.nm, .slice A1 n1 c1, .slice B1 m1 d1] (.int .i64 (f.kind : Nat)) (.string f.nm) (.bool f.closed) gg cap D) ?_ (fun wx hap => HN.out g lo gg cap [.int .i64 v.fm.lab.kind, .string v.fm.lab.nm, .slice A1 n1 c1, .slice B1 m1 d1] _ wx rfl rfl (id ⟨rfl, rfl, rfl, rfl, rfl, rfl, rfl, rfl, rfl, rfl, rfl, trivial⟩) (HFIN.out _ _ _ hap))
    first
    | with_reducible exact X1.out
    | with_reducible exact X2.out
    | fail

end Go.Proofs.YtnoceodmnjhljabDoor
