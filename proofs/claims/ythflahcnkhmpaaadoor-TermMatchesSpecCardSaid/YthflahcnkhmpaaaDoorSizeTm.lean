/-
  term.Size, term.fits; the reference's TermSize, TermDepth: the walks.
-/
import Derived.Test.YthflahcnkhmpaaaDoorProg
import Derived.Test.YthflahcnkhmpaaaDoorTerm
namespace Go.Proofs.YthflahcnkhmpaaaDoor
open Go Go.RowKit
set_option linter.unusedSimpArgs false
set_option linter.unusedVariables false

theorem max_nat (a b : Nat) : max (a : Int) (b : Int) = ((max a b : Nat) : Int) := by omega

set_option maxRecDepth 100000 in
set_option maxHeartbeats 2000000 in
theorem size_any : ∀ (N : Nat) (t : Tm) (cs : List Value) (w : World) (S : Nat → Prop), t.nodes ≤ N → t.nodes ≤ 1000000000000 → tmRep.R w S t cs → (∀ b, S b → b < w.heap.size) →
    Calls Tryd.prog 77 #[.agg cs.toArray] w fun e w' => e = .returned (.tuple #[.int .i64 t.nodes, .int .i64 t.depth]) ∧ Below w.heap.size w w' := by
  intro N
  induction N with
  | zero => intro t; have := t.nodes_pos; intros; omega
  | succ N ih =>
  intro t cs w S hN hM ht hS
  have IH := Lib.hid ih
  clear ih
  obtain ⟨⟨k, s, i, ty⟩, l⟩ := t
  obtain ⟨u0, u1, v, rfl, _, hty, hl⟩ := Tm.open_ ht
  obtain ⟨sa, Aa, na, ca, rfl, rfl⟩ := hty.shape
  have HL := Lib.hid hl
  obtain ⟨A, m, c, rfl, rfl, hm, _⟩ := hl
  unfold maxLen at hm
  have hbig : 1 + Tree.nodess l ≤ 1000000000000 := by simpa [Tree.nodes] using hM
  clear ht hty
  have HS := Lib.hid hS
  have HN := Lib.hid hN
  clear hS hN
  go_enter Tryd.func77, Tryd.ntmps77
  go_wp2_with fail
  go_loopg [4, 5, 13] l.length (fun k v4 v5 v13 wr => ∃ j : Nat, j + k = l.length ∧ v13 = .int .i64 j ∧ v4 = .int .i64 ((1 + Tree.nodess (l.take j) : Nat) : Int) ∧ v5 = .int .i64 (Tree.depths (l.take j) : Nat) ∧ Below w.heap.size w wr)
  case atStart => exact ⟨0, by omega, rfl, by simp [Tree.nodess], by simp [Tree.depths], by go_grown⟩
  case round =>
    obtain ⟨j, hj, rfl, rfl, rfl, hb⟩ := hrel
    have hle := Tree.nodess_take_le l j
    have hdn : Tree.depths (l.take j) ≤ 1000000000000 := by
      have := Tree.depth_le_nodes (.mk (⟨k, s, i, ty⟩ : TmL) (l.take j))
      simp [Tree.depth, Tree.nodes] at this; omega
    have HB := Lib.hid hb
    have hbsz := hb.size
    clear hb
    by_cases hjl : j < l.length
    · obtain ⟨b, o, kc, rfl, hSb, hr, hc⟩ := Rep.Sl.at_ HL.out (List.getElem?_eq_getElem hjl)
      obtain ⟨s1, A1, n1, c1, B1, m1, d1, rfl, _, _⟩ := Tm.shape hr
      have hbs := HS.out _ hSb
      have hk := HB.out.block b hbs
      have e0 : wr.cell? ⟨b, o + j * 6, none⟩ = _ := (cell_keep hk _).trans (hc 0 _ rfl)
      have e1 : wr.cell? ⟨b, o + j * 6 + 1, none⟩ = _ := (cell_keep hk _).trans (hc 1 _ rfl)
      have e2 : wr.cell? ⟨b, o + j * 6 + 2, none⟩ = _ := (cell_keep hk _).trans (hc 2 _ rfl)
      have e3 : wr.cell? ⟨b, o + j * 6 + 3, none⟩ = _ := (cell_keep hk _).trans (hc 3 _ rfl)
      have e4 : wr.cell? ⟨b, o + j * 6 + 4, none⟩ = _ := (cell_keep hk _).trans (hc 4 _ rfl)
      have e5 : wr.cell? ⟨b, o + j * 6 + 5, none⟩ = _ := (cell_keep hk _).trans (hc 5 _ rfl)
      have HR := Lib.hid (tmRep.keep hr (fun k hk => HB.out.block k (HS.out k hk)) (fun _ h => h))
      have hn1 := Tree.nodess_take l j hjl
      have hd1 := Tree.depths_take l j hjl
      have hx := Tree.nodess_take_le l (j + 1)
      have hdl := Tree.depth_le_nodes l[j]
      have HN1 := Lib.hid hn1
      have HD1 := Lib.hid hd1
      have q0 : (0 : Int) ≤ (j : Int) := by omega
      have q1 : (j : Int) < (l.length : Int) := by omega
      have p1 : l[j].nodes + Tree.nodess (l.take j) ≤ 1000000000000 := by omega
      have p2 : l[j].depth ≤ 1000000000000 := by omega
      have hbw : b < wr.heap.size := by omega
      clear hr hc hk hn1 hd1 hx hdl hle
      go_wp2_with fail
      refine (IH.out l[j] [.int .i64 l[j].lab.kind, .string l[j].lab.nm, .int .i64 l[j].lab.ix, .string s1, .slice A1 n1 c1, .slice B1 m1 d1] _ S (by have := Tree.nodes_at l j hjl; have := HN.out; simp [Tree.nodes] at this; omega) (by omega) (tmRep.keep HR.out (fun k hk => heap_old (by have := HS.out k hk; omega) rfl) (fun _ h => h)) (fun b hb => by have := HS.out b hb; simp; omega)).mono ?_
      rintro e w2 ⟨rfl, hw2⟩
      have HW2 := Lib.hid ((HB.out.alloc (by omega) _).trans (hw2.mono (by simp; omega)))
      clear hw2
      go_wp2_with fail
      all_goals
        go_roundg (l.length - (j + 1))
        case measure => omega
        case rel =>
          refine ⟨j + 1, by omega, by go_num, ?_, ?_, HW2.out⟩
          · rw [HN1.out]; congr 1; omega
          · rw [HD1.out]; congr 1; omega
    · go_wp2_with fail
      have h1 : j = l.length := by omega
      go_ret2
      subst h1
      rw [List.take_length]
      exact ⟨by simp [Tree.nodes, Tree.depth], HB.out⟩

end Go.Proofs.YthflahcnkhmpaaaDoor
