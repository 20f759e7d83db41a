/-
  The reference's Arguments and OrderOf; glosswrightequal.Simples: the walks.
-/
import Derived.Test.YthflahcnkhmpaaaDoorPrint
import Derived.Test.YthflahcnkhmpaaaDoorSplit
import Derived.Test.YthflahcnkhmpaaaDoorEqTy
import Derived.Test.YthflahcnkhmpaaaDoorStack
namespace Go.Proofs.YthflahcnkhmpaaaDoor
open Go Go.RowKit

theorem Rep.Own.keep2 {α : Type} {ρ : Rep α} {E : TypeId} {base : Nat} {w w' : World} {S : Nat → Prop} {v : Value} {l : List α} (h : ρ.Own E base w S v l) (hk : ∀ b, base ≤ b → b < w.heap.size → w'.heap[b]? = w.heap[b]?)
    (hS : ∀ b, S b → w'.heap[b]? = w.heap[b]?) : ρ.Own E base w' S v l := by
  obtain ⟨xs, ⟨h1, h2⟩, h3⟩ := h
  refine ⟨xs, ⟨h1, ?_⟩, h3.keep (fun b hb => hS b hb.1) (fun _ h => h)⟩
  rcases h2 with h2 | ⟨g, cap, cur, e, hg, hh, r⟩
  · exact Or.inl h2
  · exact Or.inr ⟨g, cap, cur, e, hg, (hk g hg (lt_heap hh)).trans hh, r⟩

set_option maxRecDepth 100000 in
set_option maxHeartbeats 1600000 in
theorem arguments_any (s : Sy) (v0 v1 : Value) (w : World) (S : Nat → Prop) (ht : s.ty.In w S v0 v1) (hS : ∀ b, S b → b < w.heap.size) (hn : s.nodes ≤ 200) :
    Calls Tryd.prog 26 #[.agg #[v0, v1]] w fun e w' => ∃ u y0 y1, e = .returned (.tuple #[u, .agg #[y0, y1]]) ∧ tyRep.Sl w' (Ex S w w') u (s.args.map Sy.ty) ∧ s.last.ty.In w' S y0 y1 ∧ Below w.heap.size w w' := by
  obtain ⟨sx, Ax, nx, cx, rfl, rfl⟩ := ht.shape
  have HT := Lib.hid ht
  have HS := Lib.hid hS
  clear ht hS
  have hal := s.args_len
  have q1 := empty_e
  have q2 := empty_t
  have q3 := empty_nil
  obtain ⟨i0, hi0, hz0, hz1, hz2⟩ := info_parts infoSimple
  go_enter Tryd.func26, Tryd.ntmps26
  go_wp2_with fail
  go_loopg [4] s.nodes (fun k v wr => ∃ (l : List Sy) (τ : Sy) (y0 y1 : Value), τ.nodes ≤ k ∧ s.args = l ++ τ.args ∧ s.last = τ.last ∧ τ.ty.In wr S y0 y1 ∧
    wr.heap[w.heap.size]? = some (.cells #[y0, y1] 24 (0, 0)) ∧ wr.heap[w.heap.size + 1]? = some (.cells #[.string ⟨#[]⟩, .slice none 0 0] 24 (0, 0)) ∧
    tyRep.Own 24 (w.heap.size + 2) wr S v (l.map Sy.ty) ∧ Below w.heap.size w wr)
  case atStart => exact ⟨[], s, _, _, Nat.le_refl _, rfl, rfl, HT.out.below (B := w.heap.size) (by go_grown) HS.out, heap_old (by go_size) (heap_at (by go_size)), heap_at (by go_size), Rep.Own.nil, by go_grown⟩
  case round =>
    obtain ⟨l, τ, y0, y1, hk, ha, hl, hin, hb0, hb1, hown, hb⟩ := hrel
    obtain ⟨sy, Ay, ny, cy, rfl, rfl⟩ := hin.shape
    obtain ⟨Aq, cq, hq⟩ := hown.len
    rw [List.length_map] at hq
    subst hq
    have a0 := cellv hb0 0 rfl
    have a1 := cellv hb0 1 rfl
    have a2 := free_heap hb0 0
    have a3 := free_heap hb0 1
    have a4 := lt_heap hb0
    have b0 := cellv hb1 0 rfl
    have b1 := cellv hb1 1 rfl
    have b2 := free_heap hb1 0
    have b3 := free_heap hb1 1
    have b4 := lt_heap hb1
    have HA := Lib.hid ha
    have HL := Lib.hid hl
    have HIN := Lib.hid hin
    have HB0 := Lib.hid hb0
    have HB1 := Lib.hid hb1
    have HO := Lib.hid hown
    have HBB := Lib.hid hb
    have hlen : l.length ≤ 200 := by have := congrArg List.length ha; simp at this; omega
    clear ha hl hin hb0 hb1 hown hb
    cases τ with
    | fn a b =>
      obtain ⟨bl, o, c, x0, x1, z0, z1, e0, e1, hSb, f0, f1, f2, f3, hia, hib⟩ := Sy.In_fn HIN.out
      injection e0 with e0
      injection e1 with e1 e2 e3
      subst e0 e1 e2 e3
      obtain ⟨sa, Aa, na, ca, rfl, rfl⟩ := hia.shape
      obtain ⟨sb, Ab, nb, cb, rfl, rfl⟩ := hib.shape
      have HIA := Lib.hid hia
      have HIB := Lib.hid hib
      have hbs := HS.out _ hSb
      have z1 : bl < wr.heap.size := by omega
      clear hia hib
      obtain ⟨xs, hown, hall⟩ := HO.out
      rw [List.length_map] at hown
      have HOWN := Lib.hid hown
      have HALL := Lib.hid hall
      have hblk : ∀ k, (Value.slice Aq l.length cq).ownBlock = some k → w.heap.size + 2 ≤ k ∧ k < wr.heap.size := HO.out.block
      have HBLK := Lib.hid hblk
      clear hown hall hblk
      go_wp2_with (at_builtin; refine wpList_append_lies (wr.alloc (.cells #[.string sa, .slice Aa na ca] 24)) ?h1 (.tmp 8) (.tmp 13) 22 ?h2 (w.heap.size + 2) 24 i0 (.agg #[.string ⟨#[]⟩, .slice none 0 0]) 2 40 ?h3 hi0 hz0 hz1 hz2 ?h4 ?h5 (.slice Aq l.length cq) l.length xs ?h6 ?h7 ⟨wr.heap.size, 0, none⟩ 1 1 [.string sa, .slice Aa na ca] ?h8 ?h9 ?h10 ?h11 ?h12 ?h13 ?h14 ?h15 (wr.heap.size + 1) ?h16 ?_)
      case h1 => rfl
      case h2 => rfl
      case h3 => exact Tryd.underlying22
      case h4 => rfl
      case h5 => omega
      case h6 => rfl
      case h7 => exact HOWN.out.alloc _
      case h8 => rfl
      case h9 => rfl
      case h10 => exact World.news_of_block (cs := #[.string sa, .slice Aa na ca]) (t := 24) (fr := (0, 0)) (heap_alloc_new wr _)
      case h11 => simp [Value.oneCell']
      case h12 => omega
      case h13 => simp [maxLen]; omega
      case h14 => omega
      case h15 => simp; omega
      case h16 => simp
      intro gg cap w3 hown3 hgrow hat hlt
      have HOWN3 := Lib.hid hown3
      have HGROW := Lib.hid hgrow
      have HAT := Lib.hid hat
      have z3 : wr.heap.size + 1 ≤ w3.heap.size := by have := hgrow.size; simpa using this
      have hg : ∀ k, k < w.heap.size + 2 → w3.heap[k]? = wr.heap[k]? := fun k hk => (hgrow.block k (by simp; omega) (by intro e; have := HBLK.out _ e.symm; omega)).trans (heap_old (by omega) rfl)
      have g0 := cellv ((hg _ (by omega)).trans HB0.out) 0 rfl
      have g1 := cellv ((hg _ (by omega)).trans HB0.out) 1 rfl
      have g2 := free_heap ((hg _ (by omega)).trans HB0.out) 0
      have g3 := free_heap ((hg _ (by omega)).trans HB0.out) 1
      have g4 := lt_heap ((hg _ (by omega)).trans HB0.out)
      have gf2 := (cell_keep (hg bl (by omega)) _).trans f2
      have gf3 := (cell_keep (hg bl (by omega)) _).trans f3
      have gf0 := (cell_keep (hg bl (by omega)) _).trans f0
      have gf1 := (cell_keep (hg bl (by omega)) _).trans f1
      have HG := Lib.hid hg
      clear hown3 hgrow hat hg
      go_wp2_with fail
      go_roundg b.nodes
      case measure => simp only [Sy.nodes] at hk; omega
      case rel =>
        have hb3 : Below w.heap.size w w3 := (HBB.out.alloc (by omega) _).grown HGROW.out (by simp; omega) (fun k hk => by have := HBLK.out k hk; omega)
        have hSlo : ∀ k, S k → k < w.heap.size := HS.out
        have hown := Rep.appended1 (w := wr.alloc (.cells #[.string sa, .slice Aa na ca] 24)) (H := wr.heap.size + 1) (l := l.map Sy.ty) (a := a.ty) (S := S) (T := S)
          (HALL.out.keep (fun k hk => heap_old (by have := hSlo k hk.1; omega) rfl) (fun _ h => h)) (tyRep.keep (show tyRep.R wr S a.ty _ from ⟨_, _, rfl, HIA.out⟩) (fun k hk => heap_old (by have := hSlo k hk; omega) rfl) (fun _ h => h))
          (fun k hk => ⟨hk, fun e => by have := HBLK.out _ e; have := hSlo k hk; omega⟩) (fun k hk => by have := hSlo k hk; simp; omega) (by rw [List.length_map]; exact HOWN3.out) HGROW.out HAT.out (by simp)
        rw [List.length_map] at hown
        refine ⟨l ++ [a], b, _, _, Nat.le_refl _, by rw [HA.out]; simp [Sy.args], HL.out, ?_, heap_set (heap_set ((HG.out _ (by omega)).trans HB0.out) 0 _) 1 _, heap_far _ (by omega) (heap_far _ (by omega) ((HG.out _ (by omega)).trans HB1.out)), ?_, (hb3.setCell (by simp) _).setCell (by simp) _⟩
        · exact HIB.out.keep fun k hk => heap_far _ (by have := HS.out k hk; omega) (heap_far _ (by have := HS.out k hk; omega) (HG.out k (by have := HS.out k hk; omega)))
        · rw [List.map_append]
          exact hown.keep2 (fun k hk _ => heap_far _ (by omega) (heap_far _ (by omega) rfl)) (fun k hk => heap_far _ (by have := hSlo k hk; omega) (heap_far _ (by have := hSlo k hk; omega) rfl))
    | e =>
      obtain ⟨A', c', e0, e1⟩ := Sy.In_e HIN.out
      injection e0 with e0
      injection e1 with e1 e2 e3
      subst e0 e1 e2 e3
      go_wp2_with fail
      go_region
      all_goals go_wp2_with fail
      have hla : s.args = l := by have := HA.out; simpa [Sy.args] using this
      have hll : s.last = .e := by rw [HL.out]; rfl
      refine bodyPost_ret (v := .tuple #[.slice Aq l.length cq, .agg #[.string bE, .slice Ay 0 cy]]) (by simp [results, Tryd.results26, go_sem, b0, b1]) rfl ?_
      refine ⟨_, _, _, rfl, ?_, ?_, ((HBB.out.setCell (by simp) _).setCell (by simp) _).drew⟩
      · rw [hla]
        exact (Rep.Own.sl (S' := fun b => S b ∨ (w.heap.size + 2 ≤ b ∧ b < wr.heap.size)) HO.out (by simp [maxLen]; omega) (fun b hb => Or.inl hb) (fun b h1 h2 => Or.inr ⟨h1, h2⟩)).keep
          (fun b hb => heap_far _ (by rcases hb with hb | hb; (have := HS.out b hb; omega); omega) (heap_far _ (by rcases hb with hb | hb; (have := HS.out b hb; omega); omega) rfl))
          (fun b hb => hb.imp id fun hb => ⟨by omega, by simp only [World.size_drew, size_set]; omega⟩)
      · rw [hll]
        exact HIN.out.keep fun k hk => heap_far _ (by have := HS.out k hk; omega) (heap_far _ (by have := HS.out k hk; omega) rfl)
    | t =>
      obtain ⟨A', c', e0, e1⟩ := Sy.In_t HIN.out
      injection e0 with e0
      injection e1 with e1 e2 e3
      subst e0 e1 e2 e3
      go_wp2_with fail
      go_region
      all_goals go_wp2_with fail
      have hla : s.args = l := by have := HA.out; simpa [Sy.args] using this
      have hll : s.last = .t := by rw [HL.out]; rfl
      refine bodyPost_ret (v := .tuple #[.slice Aq l.length cq, .agg #[.string bT, .slice Ay 0 cy]]) (by simp [results, Tryd.results26, go_sem, b0, b1]) rfl ?_
      refine ⟨_, _, _, rfl, ?_, ?_, ((HBB.out.setCell (by simp) _).setCell (by simp) _).drew⟩
      · rw [hla]
        exact (Rep.Own.sl (S' := fun b => S b ∨ (w.heap.size + 2 ≤ b ∧ b < wr.heap.size)) HO.out (by simp [maxLen]; omega) (fun b hb => Or.inl hb) (fun b h1 h2 => Or.inr ⟨h1, h2⟩)).keep
          (fun b hb => heap_far _ (by rcases hb with hb | hb; (have := HS.out b hb; omega); omega) (heap_far _ (by rcases hb with hb | hb; (have := HS.out b hb; omega); omega) rfl))
          (fun b hb => hb.imp id fun hb => ⟨by omega, by simp only [World.size_drew, size_set]; omega⟩)
      · rw [hll]
        exact HIN.out.keep fun k hk => heap_far _ (by have := HS.out k hk; omega) (heap_far _ (by have := HS.out k hk; omega) rfl)

set_option maxHeartbeats 800000 in
theorem eqTys_any (l l' : List Ty) (u u' : Value) (w : World) (S : Nat → Prop) (hx : tyRep.Sl w S u l) (hy : tyRep.Sl w S u' l') (hS : ∀ b, S b → b < w.heap.size) :
    Calls Tryd.prog 29 #[u, u'] w fun e w' => e = .returned (.bool (Ty.beqs l l')) ∧ Below w.heap.size w w' := by
  have HX := Lib.hid hx
  have HY := Lib.hid hy
  obtain ⟨A, n, c, rfl, rfl, hn, hA⟩ := hx
  obtain ⟨A', n', c', rfl, rfl, hn', hA'⟩ := hy
  unfold maxLen at hn hn'
  clear hA hA'
  have HS := Lib.hid hS
  clear hS
  by_cases hll : l.length = l'.length
  case neg =>
    have hss' : ((l.length : Int) != (l'.length : Int)) = true := by rw [bne_iff_ne]; omega
    go_enter Tryd.func29, Tryd.ntmps29
    go_wp2_with fail
    go_returns
    have : Ty.beqs l l' = false := by
      cases h : Ty.beqs l l'
      · rfl
      · exact absurd (Ty.beqs_len l l' h) hll
    exact ⟨by simp [this], Below.refl _ _⟩
  have Hll := Lib.hid hll
  have hss' : ((l.length : Int) != (l'.length : Int)) = false := by rw [hll]; simp
  clear hll
  go_enter Tryd.func29, Tryd.ntmps29
  go_wp2_with fail
  go_loopg [13] l.length (fun k v wr => ∃ j : Nat, j + k = l.length ∧ v = .int .i64 j ∧ Ty.beqs (l.take j) (l'.take j) = true ∧ Below w.heap.size w wr)
  case atStart => exact ⟨0, by omega, rfl, by simp [Ty.beqs], Below.refl _ _⟩
  case round =>
    obtain ⟨j, hj, rfl, hb, hwr⟩ := hrel
    have Hwr := Lib.hid hwr
    have hsz := hwr.size
    have Hb := Lib.hid hb
    clear hwr hb
    by_cases hjl : j < l.length
    · have hjl' : j < l'.length := by have := Hll.out; omega
      obtain ⟨b, o, cs, rfl, hSb, ⟨u0, u1, rfl, e2⟩, hcs⟩ := HX.out.at_ (List.getElem?_eq_getElem hjl)
      obtain ⟨b', o', cs', rfl, hSb', ⟨u0', u1', rfl, e2'⟩, hcs'⟩ := HY.out.at_ (List.getElem?_eq_getElem hjl')
      have hbs := HS.out _ hSb
      have hbs' := HS.out _ hSb'
      have f0 : wr.cell? ⟨b, o + j * 2, none⟩ = some u0 := (cell_keep (Hwr.out.block b hbs) _).trans (hcs 0 u0 rfl)
      have f1 : wr.cell? ⟨b, o + j * 2 + 1, none⟩ = some u1 := (cell_keep (Hwr.out.block b hbs) _).trans (hcs 1 u1 rfl)
      have f0' : wr.cell? ⟨b', o' + j * 2, none⟩ = some u0' := (cell_keep (Hwr.out.block b' hbs') _).trans (hcs' 0 u0' rfl)
      have f1' : wr.cell? ⟨b', o' + j * 2 + 1, none⟩ = some u1' := (cell_keep (Hwr.out.block b' hbs') _).trans (hcs' 1 u1' rfl)
      have HE := Lib.hid (e2.below Hwr.out HS.out)
      have HE' := Lib.hid (e2'.below Hwr.out HS.out)
      clear e2 e2' hcs hcs'
      have q0 : (0 : Int) ≤ (j : Int) := by omega
      have q1 : (j : Int) < (l.length : Int) := by omega
      have q2 : (j : Int) < (l'.length : Int) := by omega
      by_cases he : l[j].beq l'[j] = true
      all_goals try simp only [Bool.not_eq_true] at he
      all_goals
        go_wp2_with fail
        go_region_held3 (fun w' => w'.cell? ⟨b, o + j * 2, none⟩ = some u0 ∧ w'.cell? ⟨b, o + j * 2 + 1, none⟩ = some u1 ∧ w'.cell? ⟨b', o' + j * 2, none⟩ = some u0' ∧ w'.cell? ⟨b', o' + j * 2 + 1, none⟩ = some u1')
          ((first | (go_keep; done) | ((repeat' apply And.intro) <;> (refine (kc _ _ (by simp; omega)).trans ?_; assumption))))
          ((go_at_call 20; refine (eqTy_any _ l[j] l'[j] u0 u1 u0' u1' _ S (Nat.le_refl _) ?q2 ?q3 ?q4).mono ?_; (case q2 => exact HE.out.drew); (case q3 => exact HE'.out.drew); (case q4 => (intro b hb; have := HS.out b hb; simp; omega)); rintro e w1 ⟨rfl, hw1⟩; obtain ⟨kc, kf⟩ := bcell hw1))
        go_wp2_with fail
      · go_roundg (l.length - (j + 1))
        case measure => omega
        case rel => exact ⟨j + 1, by omega, by go_num, Ty.beqs_snoc l l' j hjl hjl' Hb.out he, Hwr.out.drew.trans (hw1.mono (by simp; omega))⟩
      · go_returns
        exact ⟨by simp [Ty.beqs_at l l' j hjl hjl' he], Hwr.out.drew.trans (hw1.mono (by simp; omega))⟩
    · go_wp2_with fail
      go_returns
      have h1 : j = l.length := by omega
      have h2 := Hb.out
      have h3 := Hll.out
      rw [h1, List.take_length] at h2
      rw [h3, List.take_length] at h2
      exact ⟨by simp [h2], Hwr.out⟩

/-! The order, as the reference counts it. -/

theorem Sy.ord_args (s : Sy) : s.ord = (s.args.map fun a => a.ord + 1).foldr max 0 := by
  induction s with
  | e => rfl
  | t => rfl
  | fn a b _ ihb => simp [Sy.ord, Sy.args, ihb]
theorem Sy.args_nodes (s : Sy) : ∀ a ∈ s.args, a.nodes < s.nodes := by
  induction s with
  | e => simp [Sy.args]
  | t => simp [Sy.args]
  | fn a b _ ihb =>
    intro x hx
    simp only [Sy.args, List.mem_cons] at hx
    rcases hx with rfl | hx
    · simp [Sy.nodes]; omega
    · have := ihb x hx; simp [Sy.nodes]; omega
/-- The greatest of the first j. -/
def most (l : List Sy) : Nat := l.foldl (fun n a => max n (a.ord + 1)) 0
theorem most_snoc (l : List Sy) (a : Sy) : most (l ++ [a]) = max (most l) (a.ord + 1) := by simp [most, List.foldl_append]
theorem foldl_most (l : List Sy) : ∀ n, l.foldl (fun n a => max n (a.ord + 1)) n = max n ((l.map fun a => a.ord + 1).foldr max 0) := by
  induction l with
  | nil => intro n; simp
  | cons a l ih => intro n; simp only [List.foldl_cons, ih, List.map_cons, List.foldr_cons]; omega
theorem most_ord (s : Sy) : most s.args = s.ord := by rw [most, foldl_most, Sy.ord_args]; omega

set_option maxRecDepth 100000 in
set_option maxHeartbeats 800000 in
theorem orderOf_ref : ∀ (N : Nat) (s : Sy) (v0 v1 : Value) (w : World) (S : Nat → Prop), s.nodes ≤ N → s.ty.In w S v0 v1 → (∀ b, S b → b < w.heap.size) → s.nodes ≤ 200 →
    Calls Tryd.prog 28 #[.agg #[v0, v1]] w fun e w' => e = .returned (.int .i64 s.ord) ∧ Below w.heap.size w w' := by
  intro N
  induction N with
  | zero => intro s; have := s.nodes_pos; intros; omega
  | succ N ih =>
  intro s v0 v1 w S hN ht hS hn
  have IH := Lib.hid ih
  clear ih
  obtain ⟨sx, Ax, nx, cx, rfl, rfl⟩ := ht.shape
  have HT := Lib.hid ht
  have HS := Lib.hid hS
  have hal := s.args_len
  have HN := Lib.hid hN
  clear ht hS hN
  go_enter Tryd.func28, Tryd.ntmps28
  go_wp2_with fail
  refine (arguments_any s _ _ _ S (by exact HT.out.below (B := w.heap.size) (by go_grown) HS.out) (by intro b hb; have := HS.out b hb; simp; omega) hn).mono ?_
  rintro e w1 ⟨u, y0, y1, rfl, hsl, hla, hw1⟩
  obtain ⟨sy, Ay, ny, cy, rfl, rfl⟩ := hla.shape
  have HSL := Lib.hid hsl
  obtain ⟨A, n, c, rfl, hl, _, _⟩ := hsl
  rw [List.length_map] at hl
  subst hl
  have hb1 : Below w.heap.size w w1 := (show Below w.heap.size w _ by go_grown).trans (hw1.mono (by simp))
  have HB1 := Lib.hid hb1
  have z1 := hb1.size
  have hex : ∀ b, Ex S (w.alloc (Obj.cells #[Value.string sx, Value.slice Ax nx cx] 24)) w1 b → b < w1.heap.size := Ex.lo (fun b hb => by have := HS.out b hb; simp; omega) hw1.size
  have HEX := Lib.hid hex
  clear hw1 hla hb1 hex
  go_wp2_with fail
  go_loopg [5, 16] s.args.length (fun k v x wr => ∃ j : Nat, j + k = s.args.length ∧ v = .int .i64 (most (s.args.take j)) ∧ most (s.args.take j) ≤ 200 ∧ x = .int .i64 j ∧ Below w1.heap.size w1 wr)
  case atStart => exact ⟨0, by omega, rfl, by simp [most], rfl, by go_grown⟩
  case round =>
    obtain ⟨j, hj, rfl, hm200, rfl, hwr⟩ := hrel
    have Hwr := Lib.hid hwr
    have hsz := hwr.size
    clear hwr
    by_cases hjl : j < s.args.length
    · have hget := List.getElem?_eq_getElem hjl
      obtain ⟨b, o, cs, rfl, hSb, ⟨u0, u1, rfl, e2⟩, hcs⟩ := HSL.out.at_ (k := j) (a := (s.args[j]).ty) (by rw [List.getElem?_map, hget]; rfl)
      obtain ⟨su, Au, nu, cu, rfl, rfl⟩ := e2.shape
      have hbs := HEX.out _ hSb
      have f0 : wr.cell? ⟨b, o + j * 2, none⟩ = some (.string su) := (cell_keep (Hwr.out.block b hbs) _).trans (hcs 0 _ rfl)
      have f1 : wr.cell? ⟨b, o + j * 2 + 1, none⟩ = some (.slice Au nu cu) := (cell_keep (Hwr.out.block b hbs) _).trans (hcs 1 _ rfl)
      have HE := Lib.hid (e2.below Hwr.out HEX.out)
      clear e2 hcs hget
      have q0 : (0 : Int) ≤ (j : Int) := by omega
      have q1 : (j : Int) < (s.args.length : Int) := by omega
      have hxn := s.args_nodes _ (List.getElem_mem hjl)
      have hxo := (s.args[j]).ord_lt
      have hm : most (s.args.take (j + 1)) = max (most (s.args.take j)) ((s.args[j]).ord + 1) := by
        rw [← List.take_append_getElem hjl, most_snoc]
      have HM := Lib.hid hm
      have h200 : (s.args[j]).ord + 1 ≤ 200 := by omega
      have hN : (s.args[j]).nodes ≤ N := by have := HN.out; omega
      have hn2 : (s.args[j]).nodes ≤ 200 := by omega
      clear hm hxn hxo
      generalize s.args[j] = a at *
      generalize most (s.args.take j) = m at *
      by_cases hgt : m < a.ord + 1
      all_goals
        go_wp2_with fail
        refine (IH.out a _ _ _ _ hN (by exact HE.out.keep (fun k hk => heap_old (by have := HEX.out k hk; omega) rfl)) (by intro b hb; have := HEX.out b hb; simp; omega) hn2).mono ?_
        rintro e w2 ⟨rfl, hw2⟩
        have hb2 : Below w1.heap.size w1 w2 := (Hwr.out.alloc (by omega) _).trans (hw2.mono (by simp; omega))
        have HB2 := Lib.hid hb2
        clear hw2 hb2
        go_wp2_with fail
        go_roundg (s.args.length - (j + 1))
        case measure => omega
        case rel => exact ⟨j + 1, by omega, by rw [HM.out]; go_num, by rw [HM.out]; omega, by go_num, HB2.out⟩
    · go_wp2_with fail
      go_returns
      have h1 : j = s.args.length := by omega
      rw [h1, List.take_length, most_ord]
      exact ⟨rfl, HB1.out.trans (Hwr.out.mono (by omega))⟩

end Go.Proofs.YthflahcnkhmpaaaDoor
