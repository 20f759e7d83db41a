/-
  simple.Clone: the walk: a copy in new memory.
-/
import Derived.Test.YtnoceodmnjhljaaDoorProg
import Derived.Test.YtnoceodmnjhljaaDoorSyIn
import Derived.Test.YtnoceodmnjhljaaDoorReps
import Derived.Deep.RegionLaw
namespace Go.Proofs.YtnoceodmnjhljaaDoor
open Go Go.RowKit
set_option linter.unusedSimpArgs false
set_option linter.unusedVariables false

def Sy.base : Sy → ByteArray
  | .e => bE
  | .t => bT
  | .fn _ _ => bNil
def Sy.kids : Sy → List Sy
  | .e | .t => []
  | .fn a b => [a, b]
theorem Sy.ty_eq (s : Sy) : s.ty = .mk s.base (s.kids.map Sy.ty) := by cases s <;> rfl
theorem Sy.kids_nodes (s : Sy) (j : Nat) (h : j < s.kids.length) : s.kids[j].nodes < s.nodes := by
  match s, j, h with
  | .fn a b, 0, _ => simp [Sy.kids, Sy.nodes]; omega
  | .fn a b, 1, _ => simp [Sy.kids, Sy.nodes]; omega
theorem Sy.kids_len (s : Sy) : s.kids.length ≤ 2 := by cases s <;> simp [Sy.kids]

/-- New since w. -/
def Fresh (w w' : World) : Nat → Prop := fun b => w.heap.size ≤ b ∧ b < w'.heap.size
theorem Fresh.ex {S : Nat → Prop} {w w' : World} : ∀ b, Fresh w w' b → Ex S w w' b := fun _ h => Or.inr h

theorem infoSimple : (Tryd.prog.info? 24).map (fun i => (i.zero, i.size, i.bytes)) = some (some (.agg #[.string ⟨#[]⟩, .slice none 0 0]), 2, 40) := by kernel_rfl

set_option maxRecDepth 100000 in
set_option maxHeartbeats 1600000 in
theorem clone_any : ∀ (N : Nat) (s : Sy) (v0 v1 : Value) (w : World) (S : Nat → Prop), s.nodes ≤ N → s.ty.In w S v0 v1 → (∀ b, S b → b < w.heap.size) →
    Calls Tryd.prog 28 #[.agg #[v0, v1]] w fun e w' => ∃ u0 u1, e = .returned (.agg #[u0, u1]) ∧ s.ty.In w' (Fresh w w') u0 u1 ∧ Below w.heap.size w w' := by
  intro N
  induction N with
  | zero => intro s; have := s.nodes_pos; intros; omega
  | succ N ih =>
  intro s v0 v1 w S hN h hS
  have IH := Lib.hid ih
  clear ih
  rw [Sy.ty_eq] at h
  obtain ⟨rfl, hs, A, n, c, rfl, hl, hn, hA⟩ := Ty.In_sl.1 h
  have hkl := s.kids_len
  rw [List.length_map] at hl
  subst hl
  have HL := Lib.hid (Ty.In_sl.1 h).2.2
  have HS := Lib.hid hS
  have HN := Lib.hid hN
  clear h hS hA hN
  obtain ⟨i0, hi0, hz0, hz1, hz2⟩ := info_parts infoSimple
  go_enter Tryd.func28, Tryd.ntmps28
  go_wp2_with fail
  go_loopg [12] s.kids.length (fun k v wr => ∃ (j : Nat) (q : Value), j + k = s.kids.length ∧ v = .int .i64 j ∧ wr.heap[w.heap.size + 1 + 1]? = some (.cells #[.string s.base, q] 24 (0, 0)) ∧
    wr.heap[w.heap.size + 1]? = some (.cells #[.string ⟨#[]⟩, .slice none 0 0] 24 (0, 0)) ∧ tyRep.Own 24 (w.heap.size + 3) wr (fun b => w.heap.size + 3 ≤ b ∧ b < wr.heap.size) q ((s.kids.take j).map Sy.ty) ∧ Below w.heap.size w wr)
  case atStart => exact ⟨0, .slice none 0 0, by omega, rfl, heap_at (by go_size), heap_old (by go_size) (heap_at (by go_size)), by simpa using Rep.Own.nil, by go_grown⟩
  case round =>
    obtain ⟨j, q, hj, rfl, hc, hr, hown, hb⟩ := hrel
    obtain ⟨Aq, cq, hq⟩ := hown.len
    have hlen : ((s.kids.take j).map Sy.ty).length = j := by simp; omega
    rw [hlen] at hq
    subst hq
    have c0 := cellv hc 0 rfl
    have c1 := cellv hc 1 rfl
    have c2 := free_heap hc 0
    have c3 := free_heap hc 1
    have c4 := lt_heap hc
    have r0 := cellv hr 0 rfl
    have r1 := cellv hr 1 rfl
    have r2 := free_heap hr 0
    have r3 := free_heap hr 1
    have r4 := lt_heap hr
    have HC := Lib.hid hc
    have HR := Lib.hid hr
    have HO := Lib.hid hown
    have HB := Lib.hid hb
    have HLEN := Lib.hid hlen
    clear hc hr hown hb hlen
    by_cases hjl : j < s.kids.length
    · obtain ⟨b, o, cs, rfl, hSb, ⟨x0, x1, rfl, hx⟩, hcell⟩ := HL.out.at_ (k := j) (a := s.kids[j].ty) (by simp [hjl])
      obtain ⟨sx, Ax, nx, cx, rfl, rfl⟩ := hx.shape
      have hbs := HS.out _ hSb
      have f0 : wr.cell? ⟨b, o + j * 2, none⟩ = some (.string sx) := (cell_keep (HB.out.block b hbs) _).trans (by simpa [tyRep] using hcell 0 _ rfl)
      have f1 : wr.cell? ⟨b, o + j * 2 + 1, none⟩ = some (.slice Ax nx cx) := (cell_keep (HB.out.block b hbs) _).trans (by simpa [tyRep] using hcell 1 _ rfl)
      have HX := Lib.hid (hx.below HB.out HS.out)
      have z1 : b < wr.heap.size := by have := HB.out.size; omega
      have q0 : (0 : Int) ≤ (j : Int) := by omega
      have q1 : (j : Int) < (s.kids.length : Int) := by omega
      clear hcell hx
      go_wp2_with fail
      have hkn := s.kids_nodes j hjl
      have hblk : ∀ k, (Value.slice Aq j cq).ownBlock = some k → w.heap.size + 3 ≤ k ∧ k < wr.heap.size := HO.out.block
      have HBLK := Lib.hid hblk
      clear hblk
      go_region_law (first
          | (refine step_call (by rfl) 28 #[.agg #[.string sx, .slice Ax nx cx]] (by go_simp) (IH.out s.kids[j] _ _ _ S (by have := HN.out; omega) (by exact HX.out.keep (fun k hk => heap_old (by have := HS.out k hk; have := HB.out.size; omega) rfl)) (by intro k hk; have := HS.out k hk; have := HB.out.size; simp; omega)) ?_; rintro e w1 ⟨u0, u1, rfl, hu, hw1⟩; refine ⟨_, rfl, ?_⟩; obtain ⟨sy, Ay, ny, cy, rfl, rfl⟩ := hu.shape; have d1 : w1.cell? ⟨w.heap.size + 1 + 1, 1, none⟩ = some (.slice Aq j cq) := cellv ((hw1.block _ (by go_size)).trans (heap_old (by omega) HC.out)) 1 rfl; have d2 : w1.frozen? ⟨w.heap.size + 1 + 1, 1, none⟩ = false := free_heap ((hw1.block _ (by go_size)).trans (heap_old (by omega) HC.out)) 1; have z1s : wr.heap.size + 1 ≤ w1.heap.size := (by have := hw1.size; simpa using this); have d3 : w.heap.size + 1 + 1 < w1.heap.size := (by omega); have HCW := Lib.hid ((hw1.block _ (by go_size)).trans (heap_old (by omega) HC.out)); have HRW := Lib.hid ((hw1.block _ (by go_size)).trans (heap_old (by omega) HR.out)); obtain ⟨xs, hown, hall⟩ := HO.out.grow (w' := w1) (fun k _ hk => (hw1.block k (by simp; omega)).trans (heap_old hk rfl)) (by omega); rw [HLEN.out] at hown; have HOWN := Lib.hid hown; have HALL := Lib.hid hall; have HU := Lib.hid hu; have HW1 := Lib.hid hw1; clear hu hw1 hown hall)
          | (refine step_append_lies _ (by rfl) (.tmp 17) (.tmp 20) _ (by rfl) (w.heap.size + 3) 24 i0 _ 2 40 Tryd.underlying22 hi0 hz0 hz1 hz2 rfl (by omega) (.slice Aq j cq) j xs (by rfl) (HOWN.out.alloc _) ⟨w1.heap.size, 0, none⟩ 1 1 [.string sy, .slice Ay ny cy] (by rfl) (by rfl) (World.news_of_block (cs := #[.string sy, .slice Ay ny cy]) (t := 24) (fr := (0, 0)) (heap_alloc_new w1 _)) (by simp [Value.oneCell']) (by omega) (by unfold maxLen; omega) (by omega) (by simp; omega) (w1.heap.size + 1) (by simp) ?_; intro gg cap w3 hown3 hgrow hat hlt; have h3 := (hgrow.block (w.heap.size + 1 + 1) (by simp; omega) (by intro e; have := HBLK.out _ e.symm; omega)).trans (heap_old d3 HCW.out); have h4 := (hgrow.block (w.heap.size + 1) (by simp; omega) (by intro e; have := HBLK.out _ e.symm; omega)).trans (heap_old (by omega) HRW.out); have e1 := cellv h3 1 rfl; have e2 := free_heap h3 1; have H3 := Lib.hid h3; have H4 := Lib.hid h4; clear h3 h4; have z3 : w1.heap.size + 1 ≤ w3.heap.size := (by have := hgrow.size; simpa using this); have HOWN3 := Lib.hid hown3; have HGROW := Lib.hid hgrow; have HAT := Lib.hid hat; clear hown3 hgrow hat))
      all_goals
        go_wp2_with fail
        go_roundg (s.kids.length - (j + 1))
        case measure => omega
        case rel =>
          have hb3 : Below w.heap.size w w3 := ((((HB.out.alloc (by omega) _).drew).trans (HW1.out.mono (by simp; omega))).alloc (by omega) _).grown HGROW.out (by simp; omega) (fun k hk => by have := HBLK.out k hk; omega)
          have hown := Rep.step (l := (s.kids.take j).map Sy.ty) (a := s.kids[j].ty) HLEN.out HALL.out (show tyRep.R w1 _ s.kids[j].ty _ from ⟨_, _, rfl, HU.out⟩) (fun b hb => ⟨⟨by have := hb.1; simp at this; omega, hb.2⟩, fun e => by have := HBLK.out _ e; have := hb.1; simp at this; omega⟩) HOWN3.out HGROW.out HAT.out
          refine ⟨j + 1, .slice (some ⟨gg, 0, none⟩) (j + 1) cap, by omega, by go_num, heap_set H3.out 1 _, heap_far _ (by omega) H4.out, ?_, hb3.setCell (by simp; omega) _⟩
          rw [List.take_succ_eq_append_getElem hjl, List.map_append]
          exact hown.grow (fun k hk _ => heap_far _ (by omega) rfl) (by rw [size_set]; omega)
    · go_wp2_with fail
      have hjk : j = s.kids.length := by omega
      refine bodyPost_ret (v := .agg #[.string s.base, .slice Aq j cq]) (by simp [results, Tryd.results28, go_sem, r0, r1]) rfl ?_
      have hown := HO.out
      rw [hjk, List.take_length] at hown
      rw [Sy.ty_eq, hjk]
      refine ⟨_, _, rfl, Ty.In_sl.2 ⟨rfl, hs, ?_⟩, (HB.out.setCell (by simp) _).setCell (by simp) _⟩
      refine ((Rep.Own.sl (S' := fun b => w.heap.size + 3 ≤ b ∧ b < wr.heap.size) hown (by simp [maxLen]; omega) (fun b hb => hb) (fun b h1 h2 => ⟨h1, h2⟩)).keep (fun b hb => heap_far _ (by omega) (heap_far _ (by omega) rfl)) (fun b hb => ⟨by omega, by rw [size_set, size_set]; omega⟩))

end Go.Proofs.YtnoceodmnjhljaaDoor
