/-
  The reference's SimpleFault (a stack of types that are still to be visited): it finds what Validate finds.
-/
import Derived.Test.YtnoceodmnjhljaaDoorProg
import Derived.Test.YtnoceodmnjhljaaDoorStack
import Derived.Test.YtnoceodmnjhljaaDoorSimple
import Derived.Test.YtnoceodmnjhljaaDoorSy
import Derived.Deep.RegionHeldLaw
namespace Go.Proofs.YtnoceodmnjhljaaDoor
open Go Go.RowKit
set_option linter.unusedSimpArgs false
set_option linter.unusedVariables false

/-- What the visit of a stack (its top first) finds, when n types have been counted. -/
noncomputable def Ty.stack : List (Ty × Nat) → Nat → Nat
  | [], _ => 0
  | (t, d) :: r, n => if (t.val d n).1 = 0 then Ty.stack r (t.val d n).2 else (t.val d n).1
theorem Ty.stack_vals : ∀ (l : List Ty) (d n : Nat) (r : List (Ty × Nat)), Ty.stack (l.map (fun x => (x, d)) ++ r) n = if (Ty.vals l d n).1 = 0 then Ty.stack r (Ty.vals l d n).2 else (Ty.vals l d n).1
  | [], d, n, r => by unfold Ty.vals; simp
  | t :: l, d, n, r => by
    unfold Ty.vals
    simp only [List.map_cons, List.cons_append, Ty.stack]
    by_cases h : (t.val d n).1 = 0
    · rw [if_pos h, if_pos h, Ty.stack_vals l d _ r]
    · rw [if_neg h, if_neg h, if_neg h]
open Classical in
theorem Ty.stack_step (s : ByteArray) (l : List Ty) (d n : Nat) (r : List (Ty × Nat)) :
    Ty.stack ((.mk s l, d) :: r) n = if 200 < n + 1 ∨ 40 < d then 1 else if okNode s l.length then Ty.stack (l.map (fun x => (x, d + 1)) ++ r) (n + 1) else 5 := by
  rw [Ty.stack]
  unfold Ty.val
  by_cases h : 200 < n + 1 ∨ 40 < d
  · simp [h]
  · rw [if_neg h, if_neg h]
    by_cases h2 : okNode s l.length
    · rw [if_pos h2, if_pos h2, Ty.stack_vals]
    · rw [if_neg h2, if_neg h2]; simp
theorem Ty.stack_fault (t : Ty) : Ty.stack [(t, 1)] 0 = t.fault := by
  unfold Ty.stack Ty.fault Ty.stack
  split <;> simp_all

def stSize (l : List (Ty × Nat)) : Nat := (l.map fun x => x.1.size).sum

def atRep : Rep (Ty × Nat) where
  size := 3
  R w S x cs := ∃ v0 v1, cs = [v0, v1, .int .i64 x.2] ∧ Ty.In w S x.1 v0 v1
  pos := by omega
  len := by rintro w S a cs ⟨v0, v1, rfl, _⟩; rfl
  one := by
    rintro w S a cs ⟨v0, v1, rfl, h⟩ u hu
    obtain ⟨s, A, n, c, rfl, rfl⟩ := h.shape
    simp at hu
    rcases hu with rfl | rfl | rfl <;> rfl
  keep := by
    rintro w w' S S' a cs ⟨v0, v1, rfl, h⟩ hk hS
    exact ⟨v0, v1, rfl, Ty.In_keep hk hS _ _ _ h⟩

theorem infoTypeAt : (Tryd.prog.info? 95).map (fun i => (i.zero, i.size, i.bytes)) = some (some (.agg #[.string ⟨#[]⟩, .slice none 0 0, .int .i64 0]), 3, 48) := by kernel_rfl

set_option maxRecDepth 100000 in
set_option maxHeartbeats 1600000 in
theorem refFault_any (t : Ty) (v0 v1 : Value) (w : World) (S : Nat → Prop) (ht : t.In w S v0 v1) (hS : ∀ b, S b → b < w.heap.size) :
    Calls Tryd.prog 26 #[.agg #[v0, v1]] w fun e w' => e = .returned (.int .i64 t.fault) ∧ Below w.heap.size w w' := by
  obtain ⟨sx, Ax, nx, cx, rfl, rfl⟩ := ht.shape
  have HT := Lib.hid ht
  have HS := Lib.hid hS
  clear ht hS
  obtain ⟨i0, hi0, hz0, hz1, hz2⟩ := info_parts infoTypeAt
  go_enter Tryd.func26, Tryd.ntmps26
  go_wp2_with fail
  go_loopg [3, 4] t.size (fun k v x wr => ∃ (L : List (Ty × Nat)) (n : Nat), atRep.Own 95 (w.heap.size + 1) wr S v L ∧ x = .int .i64 n ∧ Ty.stack L.reverse n = t.fault ∧ n ≤ 200 ∧ L.length ≤ n + 1 ∧ (∀ y ∈ L, y.2 ≤ 41) ∧ stSize L ≤ k ∧ Below w.heap.size w wr)
  case atStart =>
    refine ⟨[(t, 1)], 0, ?_, rfl, Ty.stack_fault t, by omega, by simp, by simp, by simp [stSize], by go_grown⟩
    refine Rep.Own.lit (ρ := atRep) (n := 1) (base := w.heap.size + 1) (w := w.alloc (.cells #[.string sx, .slice Ax nx cx] 24)) (cs := #[.string sx, .slice Ax nx cx, .int .i64 1]) rfl (by simp [maxLen]) (Rep.All.single (ρ := atRep) (a := (t, 1)) ⟨_, _, rfl, HT.out.keep (fun k hk => heap_old (HS.out k hk) rfl)⟩) (by simp) (fun b hb => by have := HS.out b hb; simp; omega) rfl (by simp)
  case round =>
    obtain ⟨L, n, hown, rfl, hst, hn, hL, hd, hsz, hb⟩ := hrel
    rcases List.eq_nil_or_concat L with rfl | ⟨L', ⟨⟨s, l⟩, d⟩, hLL⟩
    · obtain ⟨A, c, rfl⟩ := hown.len
      clear hown hsz hd
      go_wp2_with fail
      go_returns
      simp only [List.reverse_nil, Ty.stack] at hst
      rw [← hst]
      exact ⟨rfl, hb⟩
    · rw [List.concat_eq_append] at hLL
      subst hLL
      obtain ⟨g, cap, cs, rfl, hcap, hg, hgl, ⟨x0, x1, rfl, hx⟩, hcell, hfr, hown⟩ := hown.pop rfl
      obtain ⟨rfl, hs, A, m, c, rfl, rfl, hm, hA⟩ := hx.open_
      have f0 : wr.cell? ⟨g, L'.length * 3, none⟩ = some (.string s) := hcell 0 _ rfl
      have f1 : wr.cell? ⟨g, L'.length * 3 + 1, none⟩ = some (.slice A l.length c) := hcell 1 _ rfl
      have f2 : wr.cell? ⟨g, L'.length * 3 + 2, none⟩ = some (.int .i64 d) := hcell 2 _ rfl
      have hd41 : d ≤ 41 := hd (.mk s l, d) (by simp)
      have hLl : L'.length ≤ 200 := by simp at hL; omega
      unfold maxLen at hm
      have q0 : (0 : Int) ≤ (L'.length : Int) := by omega
      have q1 : (L'.length : Int) ≤ (cap : Int) := by omega
      have q2 : ((L'.length + 1 : Nat) : Int) - 1 = (L'.length : Int) := by omega
      rw [List.reverse_append, List.reverse_singleton, List.singleton_append, Ty.stack_step] at hst
      have HO := Lib.hid hown
      have HST := Lib.hid hst
      have HD := Lib.hid hd
      have HSZ := Lib.hid hsz
      have HB := Lib.hid hb
      have HX := Lib.hid hx
      have HA := Lib.hid hA
      have HFR := Lib.hid hfr
      clear hcell hown hst hd hsz hb hx hA hfr
      have hb' : Below w.heap.size w (wr.alloc (.cells #[.string s, .slice A l.length c, .int .i64 d] 95)) := HB.out.alloc HB.out.size _
      have HB' := Lib.hid hb'
      clear hb'
      by_cases hn1 : 200 < n + 1
      · go_wp2_with fail
        go_returns
        rw [← HST.out, if_pos (Or.inl hn1)]
        exact ⟨rfl, HB'.out⟩
      by_cases hd1 : 40 < d
      · go_wp2_with fail
        go_returns
        rw [← HST.out, if_pos (Or.inr hd1)]
        exact ⟨rfl, HB'.out⟩
      have hng : ¬ (200 < n + 1 ∨ 40 < d) := by omega
      have HST := Lib.hid (HST.out.symm.trans (if_neg hng))
      clear hng
      by_cases hs0 : s = bNil
      · subst hs0
        have t0 := empty_nil
        by_cases hl2 : l.length = 2
        · have t1 : ((l.length : Int) != 2) = false := by rw [hl2]; rfl
          match l, hl2 with
          | [ta, tb], _ =>
            obtain ⟨bl, o, rfl, hSb, hIns⟩ := HA.out (by simp)
            unfold Ty.Ins at hIns
            obtain ⟨a0, a1, e0, e1, ha, hIns⟩ := hIns
            unfold Ty.Ins at hIns
            obtain ⟨b0, b1, e2, e3, hb, _⟩ := hIns
            obtain ⟨sa, Aa, na, ca, rfl, rfl⟩ := ha.shape
            obtain ⟨sb, Ab, nb, cb, rfl, rfl⟩ := hb.shape
            have HIA := Lib.hid ha
            have HIB := Lib.hid hb
            have hblt := HS.out _ hSb
            have z1 : bl < wr.heap.size := by have := HB.out.size; omega
            clear ha hb
            simp only [List.length_cons, List.length_nil, Nat.zero_add, Nat.reduceAdd] at *
            obtain ⟨ys, hown, hall⟩ := HO.out
            have HOWN := Lib.hid hown
            have HALL := Lib.hid hall
            have hblk : ∀ k, (Value.slice (some ⟨g, 0, none⟩) L'.length cap).ownBlock = some k → w.heap.size + 1 ≤ k ∧ k < wr.heap.size := HO.out.block
            have HBLK := Lib.hid hblk
            clear hown hall hblk
            go_wp2_with fail
            have hwd : IntKind.i64.wrap ((d : Int) + 1) = (d : Int) + 1 := wrap_small _ (by omega) (by omega)
            have hgb : g < wr.heap.size ∧ w.heap.size < g := ⟨hgl, hg⟩
            go_region_held_law (fun w' => w'.cell? ⟨wr.heap.size, 1, none⟩ = some (.slice (some ⟨bl, o, none⟩) 2 c) ∧ w'.cell? ⟨wr.heap.size, 2, none⟩ = some (.int .i64 d) ∧ w'.cell? ⟨bl, o, none⟩ = some (.string sa) ∧ w'.cell? ⟨bl, o + 1, none⟩ = some (.slice Aa na ca) ∧ w'.cell? ⟨bl, o + 2, none⟩ = some (.string sb) ∧ w'.cell? ⟨bl, o + 2 + 1, none⟩ = some (.slice Ab nb cb))
              ((first | (go_keep; done) | (go_split_ands; (repeat' apply And.intro) <;> (refine (kc _ _ (by omega) (by omega)).trans ?_; assumption))))
              ((refine step_append_lies _ (by rfl) (.tmp 41) (.tmp 60) _ (by rfl) (w.heap.size + 1) 95 i0 _ 3 48 Tryd.underlying96 hi0 hz0 hz1 hz2 rfl (by omega) (.slice (some ⟨g, 0, none⟩) L'.length cap) L'.length ys (by rfl) (((HOWN.out.alloc _).alloc _).drew) ⟨wr.heap.size + 1, 0, none⟩ 2 2 [.string sb, .slice Ab nb cb, .int .i64 (d + 1), .string sa, .slice Aa na ca, .int .i64 (d + 1)] (by rfl) (by rfl) (World.news_of_block (cs := #[.string sb, .slice Ab nb cb, .int .i64 (d + 1), .string sa, .slice Aa na ca, .int .i64 (d + 1)]) (t := 95) (fr := (0, 0)) (heap_at (by simp))) (by simp [Value.oneCell']) (by omega) (by unfold maxLen; omega) (by omega) (by simp; omega) (wr.heap.size + 2) (by simp) ?_; intro gg cap' w3 hown3 hgrow hat hlt; have kc : ∀ k q, k < wr.heap.size + 1 → k ≠ g → w3.cell? ⟨k, q, none⟩ = (((wr.alloc (.cells #[.string bNil, .slice (some ⟨bl, o, none⟩) 2 c, .int .i64 d] 95)).alloc (.cells #[.string sb, .slice Ab nb cb, .int .i64 (d + 1), .string sa, .slice Aa na ca, .int .i64 (d + 1)] 95)).drew).cell? ⟨k, q, none⟩ := fun k q h1 h2 => cell_keep (hgrow.block k (by simp; omega) (by simp [Value.ownBlock]; omega)) q))
            simp only [List.getElem_toArray, List.getElem_cons_succ, List.getElem_cons_zero, List.setIfInBounds_toArray, List.set_cons_succ, List.set_cons_zero]
            have HOWN3 := Lib.hid hown3
            have HGROW := Lib.hid hgrow
            have HAT := Lib.hid hat
            clear hown3 hgrow hat kc
            go_wp2_with fail
            go_roundg (stSize (L' ++ [(tb, d + 1), (ta, d + 1)]))
            case measure =>
              have := HSZ.out
              simp [stSize, Ty.size, Ty.sizes] at this ⊢
              omega
            case rel =>
              have hlow : ∀ k, S k → k < wr.heap.size := fun k hk => by have := HS.out k hk; have := HB.out.size; omega
              have hkk : ∀ k, S k → (((wr.alloc (.cells #[.string bNil, .slice (some ⟨bl, o, none⟩) 2 c, .int .i64 d] 95)).alloc (.cells #[.string sb, .slice Ab nb cb, .int .i64 (d + 1), .string sa, .slice Aa na ca, .int .i64 (d + 1)] 95)).drew).heap[k]? = wr.heap[k]? :=
                fun k hk => heap_old (by have := hlow k hk; simp; omega) (heap_old (hlow k hk) rfl)
              have hne : ∀ k, S k → (Value.slice (some ⟨g, 0, none⟩) L'.length cap).ownBlock ≠ some k := fun k hk e => by have := HBLK.out k e; have := HS.out k hk; omega
              refine ⟨L' ++ [(tb, d + 1), (ta, d + 1)], n + 1, ?_, by go_num, ?_, by omega, by simp at hL ⊢; omega, ?_, Nat.le_refl _, ?_⟩
              · have hap := Rep.appended (ρ := atRep) (H := wr.heap.size + 2) (m := 2) (l := L') (l' := [(tb, d + 1), (ta, d + 1)]) (S := S) (HALL.out.keep (fun k hk => hkk k hk.1) (fun _ h => h))
                  (news := [.string sb, .slice Ab nb cb, .int .i64 (d + 1), .string sa, .slice Aa na ca, .int .i64 (d + 1)])
                  ⟨[.string sb, .slice Ab nb cb, .int .i64 (d + 1)], [.string sa, .slice Aa na ca, .int .i64 (d + 1)], rfl, ⟨_, _, by simp, (HIB.out.keep hkk).mono fun k hk => ⟨hk, hne k hk⟩⟩, Rep.All.single (ρ := atRep) (a := (ta, d + 1)) ⟨_, _, by simp, (HIA.out.keep hkk).mono fun k hk => ⟨hk, hne k hk⟩⟩⟩
                  (fun k hk => by have := hlow k hk; simp; omega) rfl HOWN3.out HGROW.out HAT.out (by simp)
                exact hap
              · rw [HST.out, if_pos (show okNode bNil 2 from Or.inr (Or.inr ⟨rfl, rfl⟩))]
                simp
              · intro y hy
                rcases List.mem_append.1 hy with hy | hy
                · exact HD.out y (by simp [hy])
                · simp at hy
                  rcases hy with rfl | rfl <;> simp <;> omega
              · exact (((HB.out.alloc HB.out.size _).alloc (by have := HB.out.size; simp; omega) _).drew).grown HGROW.out (by have := HB.out.size; simp; omega) (fun k hk => by have := HBLK.out k hk; omega)
        · have t1 : ((l.length : Int) != 2) = true := by rw [bne_iff_ne]; omega
          go_wp2_with fail
          go_returns
          rw [HST.out, if_neg]
          · exact ⟨rfl, HB'.out⟩
          · rintro (⟨h, _⟩ | ⟨h, _⟩ | ⟨_, h⟩)
            · exact bE_ne_nil h.symm
            · exact bT_ne_nil h.symm
            · exact hl2 h
      · have t0 : s.toList.isEmpty = false := by
          cases h : s.toList.isEmpty
          · rfl
          · exact absurd (bytes_inj (by rw [List.isEmpty_iff.1 h]; simp [bNil])) hs0
        have fin5 : ¬ okNode s l.length → (5 : Nat) = t.fault := fun h => by rw [HST.out, if_neg h]
        have fin0 : okNode s l.length → l = [] → Ty.stack L'.reverse (n + 1) = t.fault := fun h e => by rw [HST.out, if_pos h, e]; rfl
        have F5 := Lib.hid fin5
        have F0 := Lib.hid fin0
        have hround : okNode s l.length → l = [] → ∃ (L : List (Ty × Nat)) (n' : Nat), atRep.Own 95 (w.heap.size + 1) (wr.alloc (.cells #[.string s, .slice A l.length c, .int .i64 d] 95)) S (.slice (some ⟨g, 0, none⟩) L'.length cap) L ∧ Value.int .i64 (n + 1) = .int .i64 n' ∧ Ty.stack L.reverse n' = t.fault ∧ n' ≤ 200 ∧ L.length ≤ n' + 1 ∧ (∀ y ∈ L, y.2 ≤ 41) ∧ stSize L ≤ stSize L' ∧
            Below w.heap.size w (wr.alloc (.cells #[.string s, .slice A l.length c, .int .i64 d] 95)) := by
          intro h e
          refine ⟨L', n + 1, HO.out.keep (fun k hk => heap_old hk rfl) (fun k hk => by have := HS.out k hk; have := HB.out.size; omega) (fun _ h => h), by go_num, F0.out h e, by omega, by simp at hL; omega, fun y hy => HD.out y (by simp [hy]), Nat.le_refl _, HB'.out⟩
        have hmeas : stSize L' < stSize (L' ++ [(Ty.mk s l, d)]) := by simp [stSize, Ty.size_pos]
        have HROUND := Lib.hid hround
        have HMEAS := Lib.hid hmeas
        clear fin5 fin0 hround hmeas
        by_cases g1 : s = bE
        · have p1 : (s.toList == [101]) = true := by rw [g1]; simp [bE]
          have G1 := Lib.hid g1
          clear g1
          by_cases g2 : l.length = 0
          · have p2 : ((l.length : Int) != 0) = false := by rw [g2]; rfl
            have G2 := Lib.hid g2
            clear g2
            go_wp2_with fail
            go_roundg (stSize L')
            case measure => have := HMEAS.out; have := HSZ.out; omega
            case rel => exact HROUND.out (Or.inl ⟨G1.out, G2.out⟩) (List.eq_nil_of_length_eq_zero G2.out)
          · have p2 : ((l.length : Int) != 0) = true := by rw [bne_iff_ne]; omega
            go_wp2_with fail
            go_returns
            rw [← F5.out]
            · exact ⟨rfl, HB'.out⟩
            · rintro (⟨_, h⟩ | ⟨h, _⟩ | ⟨h, _⟩)
              · exact g2 h
              · exact bE_ne_bT (G1.out.symm.trans h)
              · exact hs0 h
        · have p1 : (s.toList == [101]) = false := by have := bytes_ne (s' := bE) g1; simpa [bE] using this
          by_cases g3 : s = bT
          · have p3 : (s.toList == [116]) = true := by rw [g3]; simp [bT]
            have G3 := Lib.hid g3
            clear g3
            by_cases g2 : l.length = 0
            · have p2 : ((l.length : Int) != 0) = false := by rw [g2]; rfl
              have G2 := Lib.hid g2
              clear g2
              go_wp2_with fail
              go_roundg (stSize L')
              case measure => have := HMEAS.out; have := HSZ.out; omega
              case rel => exact HROUND.out (Or.inr (Or.inl ⟨G3.out, G2.out⟩)) (List.eq_nil_of_length_eq_zero G2.out)
            · have p2 : ((l.length : Int) != 0) = true := by rw [bne_iff_ne]; omega
              go_wp2_with fail
              go_returns
              rw [← F5.out]
              · exact ⟨rfl, HB'.out⟩
              · rintro (⟨h, _⟩ | ⟨_, h⟩ | ⟨h, _⟩)
                · exact g1 h
                · exact g2 h
                · exact hs0 h
          · have p3 : (s.toList == [116]) = false := by have := bytes_ne (s' := bT) g3; simpa [bT] using this
            go_wp2_with fail
            go_returns
            rw [← F5.out]
            · exact ⟨rfl, HB'.out⟩
            · rintro (⟨h, _⟩ | ⟨h, _⟩ | ⟨h, _⟩)
              · exact g1 h
              · exact g3 h
              · exact hs0 h

end Go.Proofs.YtnoceodmnjhljaaDoor
