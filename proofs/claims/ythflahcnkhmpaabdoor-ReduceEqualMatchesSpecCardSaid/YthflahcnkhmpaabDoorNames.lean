/-
  The reference's names (a term with numbers): the walk.
-/
import Derived.Test.YthflahcnkhmpaabDoorProg
import Derived.Test.YthflahcnkhmpaabDoorNamed
import Derived.Test.YthflahcnkhmpaabDoorKids
import Derived.Test.YthflahcnkhmpaabDoorAppAll
import Derived.Deep.DeepCutAuto
import Derived.Deep.QuietTactic
import Derived.BigQuiet
import Derived.Test.YthflahcnkhmpaabDoorFrame
namespace Go.Proofs.YthflahcnkhmpaabDoor
open Go Go.RowKit
set_option linter.unusedSimpArgs false
set_option linter.unusedVariables false

theorem infoIntN : (Tryd.prog.info? 3).map (fun i => (i.zero, i.size, i.bytes)) = some (some (.int .i64 0), 1, 8) := by kernel_rfl
theorem infoNamed : (Tryd.prog.info? 65).map (fun i => (i.zero, i.size, i.bytes)) = some (some (.agg #[.int .i64 0, .int .i64 0, .string ⟨#[]⟩, .string ⟨#[]⟩, .slice none 0 0, .slice none 0 0]), 6, 96) := by kernel_rfl
/-- A list of numbers as a slice (the innermost last). -/
def UpAt (w : World) (S : Nat → Prop) (uv : Value) (up : List Nat) : Prop := intRep.Sl w S uv (up.reverse.map fun x : Nat => (x : Int))
theorem UpAt.keep {w w' : World} {S S' : Nat → Prop} {uv : Value} {up : List Nat} (h : UpAt w S uv up) (hk : ∀ b, S b → w'.heap[b]? = w.heap[b]?) (hS : ∀ b, S b → S' b) : UpAt w' S' uv up := Rep.Sl.keep h hk hS
theorem UpAt.shape {w : World} {S : Nat → Prop} {uv : Value} {up : List Nat} (h : UpAt w S uv up) : ∃ A c, uv = .slice A up.length c := by
  obtain ⟨A, n, c, rfl, hl, _⟩ := h
  simp at hl; exact ⟨A, c, by rw [hl]⟩
/-- Number i from the inside. -/
theorem UpAt.at_ {w : World} {S : Nat → Prop} {A : Option Addr} {c i : Nat} {up : List Nat} (h : UpAt w S (.slice A up.length c) up) (hi : i < up.length) :
    ∃ b o, A = some ⟨b, o, none⟩ ∧ S b ∧ w.cell? ⟨b, o + (up.length - 1 - i), none⟩ = some (.int .i64 (up.getD i 0 : Nat)) := by
  obtain ⟨b, o, cs, e, hb, rfl, hc⟩ := Rep.Sl.at_ h (k := up.length - 1 - i) (a := ((up.getD i 0 : Nat) : Int)) (by
    rw [List.getElem?_map, List.getElem?_reverse (by omega), show up.length - 1 - (up.length - 1 - i) = i by omega]
    simp [List.getD, List.getElem?_eq_getElem hi])
  refine ⟨b, o, e, hb, ?_⟩
  have := hc 0 _ rfl
  simpa [intRep] using this
theorem UpAt.news {w : World} {S : Nat → Prop} {uv : Value} {up : List Nat} (h : UpAt w S uv up) : ∃ xs, intRep.All w S (up.reverse.map fun x : Nat => (x : Int)) xs ∧ NewsAt w S uv up.length xs ∧ xs.length = up.length * 1 ∧ ∀ u ∈ xs, u.oneCell' = true := by
  obtain ⟨xs, h1, h2, h3, h4⟩ := Rep.Sl.news h
  simp only [List.length_map, List.length_reverse] at h2 h3
  exact ⟨xs, h1, h2, h3, h4⟩
theorem UpAt.snoc {w w2 : World} {S S2 : Nat → Prop} {v : Value} {up : List Nat} {id : Nat} {xs : List Value} {E : TypeId} {base n : Nat} (hx : intRep.All w S (up.reverse.map fun x : Nat => (x : Int)) xs)
    (hk : ∀ b, S b → w2.heap[b]? = w.heap[b]?) (hS : ∀ b, S b → S2 b) (hown : w2.ownsRow base E 1 v n (([] ++ xs) ++ [.int .i64 (id : Nat)])) (hn : n = up.length + 1) (hm : n ≤ maxLen) (hg : ∀ g, base ≤ g → g < w2.heap.size → S2 g) : UpAt w2 S2 v (id :: up) := by
  have := Rep.Sl.snoc (ρ := intRep) (a := ((id : Nat) : Int)) (cs := [.int .i64 (id : Nat)]) hx (w2 := w2) rfl hk hS hown (by simpa using hn) hm hg
  simpa [UpAt] using this

theorem of_thr_le (up : List Nat) : ∀ (l : List Tv) (s : Nat), (thr (fun x k => Nm.of x up k) l s).2 ≤ s + (l.map Tv.nodes).sum ∧ s ≤ (thr (fun x k => Nm.of x up k) l s).2
  | [], s => ⟨by simp [thr], Nat.le_refl _⟩
  | a :: l, s => by
    have h1 := Nm.of_le a up s
    have h2 := of_thr_le up l (Nm.of a up s).2
    simp only [thr, List.map_cons, List.sum_cons]; omega
theorem Tv.kids_sum (v : Tv) : v.nodes = 1 + (v.kids.map Tv.nodes).sum := by cases v <;> simp [Tv.kids, Tv.nodes] <;> omega
theorem sum_take_le {α : Type} (f : α → Nat) : ∀ (l : List α) (j : Nat) (h : j < l.length), ((l.take j).map f).sum + f l[j] ≤ (l.map f).sum
  | a :: l, 0, _ => by simp
  | a :: l, j + 1, h => by
    have := sum_take_le f l j (by simpa using h)
    simp only [List.take_succ_cons, List.map_cons, List.sum_cons, List.getElem_cons_succ]; omega
theorem Tv.ups_len (v : Tv) (up : List Nat) (n : Nat) : (v.ups up n).length = v.more up.length ∧ v.more up.length ≤ up.length + 1 ∧ v.upn n ≤ n + 1 := by cases v <;> simp [Tv.ups, Tv.more, Tv.upn]
/-- What names leaves. -/
def NamesAt (v : Tv) (up : List Nat) (n bn : Nat) (w : World) (S : Nat → Prop) (e : Ending) (w' : World) : Prop :=
  ∃ es : List Value, e = .returned (.agg es.toArray) ∧ nmRep.R w' (Ex S w w') (Nm.of v up n).1.tr es ∧ w'.heap[bn]? = some (.cells #[.int .i64 ((Nm.of v up n).2 : Nat)] 3 (0, 0)) ∧ Mods (· = bn) w.heap.size w w'

set_option maxRecDepth 100000 in
set_option maxHeartbeats 4000000 in
theorem names_any : ∀ (N : Nat) (v : Tv) (up : List Nat) (n : Nat) (cs : List Value) (uv : Value) (w : World) (S SU : Nat → Prop) (bn : Nat), v.nodes ≤ N → v.ok up.length → n + v.nodes ≤ 1000000000000 → up.length + v.nodes ≤ 1000000 → tmRep.R w S v.tm cs → UpAt w SU uv up → (∀ b, S b → b < w.heap.size ∧ b ≠ bn) → (∀ b, SU b → b < w.heap.size ∧ b ≠ bn) →
    w.heap[bn]? = some (.cells #[.int .i64 n] 3 (0, 0)) →
    Calls Tryd.prog 42 #[.agg cs.toArray, uv, .pointer (some ⟨bn, 0, none⟩)] w (NamesAt v up n bn w S) := by
  intro N
  induction N with
  | zero => intro v; have := v.nodes_pos; intros; omega
  | succ N ih =>
  intro v up n cs uv w S SU bn hN hok hnb hub h hup hS hSU hbn
  have IH := Lib.hid ih
  clear ih
  have hnp := v.nodes_pos
  have hbl := lt_heap hbn
  have hbl1 : bn < w.heap.size + 1 := by omega
  have hbl2 : bn < w.heap.size + 1 + 1 := by omega
  have hbl3 : bn < w.heap.size + 1 + 1 + 1 := by omega
  have wn : IntKind.i64.wrap ((n : Int) + 1) = (n : Int) + 1 := wrap_small _ (by omega) (by omega)
  have e0 := cv0 hbn
  have e0f := free_heap hbn 0
  obtain ⟨Au, cu, rfl⟩ := hup.shape
  by_cases hv : ∃ i, v = .var i
  · obtain ⟨i, rfl⟩ := hv
    have hi : i < up.length := hok
    obtain ⟨u0, u1, vs, rfl, hnm, hty, hl⟩ := Tm.open_ (a := ⟨2, bNil, (i : Int), noTy⟩) (l := []) h
    obtain ⟨sa, Aa, na, ca, rfl, rfl⟩ := hty.shape
    obtain ⟨A, m, cp, rfl, hln, hm, _⟩ := hl
    simp only [List.length_nil] at hln
    subst hln
    obtain ⟨b, o, rfl, hSb, hcell⟩ := hup.at_ hi
    have hbs := (hSU b hSb).1
    have hbs1 : b < w.heap.size + 1 := by omega
    have hbs2 : b < w.heap.size + 1 + 1 := by omega
    have hbs3 : b < w.heap.size + 1 + 1 + 1 := by omega
    have q1 : (0 : Int) ≤ (up.length : Int) - 1 - (i : Int) := by omega
    have q2 : (up.length : Int) - 1 - (i : Int) < (up.length : Int) := by omega
    have q3 : ((up.length : Int) - 1 - (i : Int)).toNat = up.length - 1 - i := by omega
    have w1 : IntKind.i64.wrap ((up.length : Int) - 1) = (up.length : Int) - 1 := wrap_small _ (by omega) (by omega)
    have w2 : IntKind.i64.wrap ((up.length : Int) - 1 - (i : Int)) = (up.length : Int) - 1 - (i : Int) := wrap_small _ (by omega) (by omega)
    have HTY := Lib.hid hty
    have HB := Lib.hid hbn
    have HS := Lib.hid hS
    clear h hm hN hnp hok hnm hty hup hbn hS hSU
    go_enter Tryd.func42, Tryd.ntmps42
    go_wp2_with fail
    refine bodyPost_ret (v := .agg #[.int .i64 2, .int .i64 (up.getD i 0 : Nat), .string bNil, .string sa, .slice Aa na ca, .slice none 0 0]) (by simp [results, Tryd.results42, go_sem, List.getElem?_eq_getElem hi]) rfl ?_
    refine ⟨[.int .i64 2, .int .i64 (up.getD i 0 : Nat), .string bNil, .string sa, .slice Aa na ca, .slice none 0 0], rfl, Nt.shut (a := ⟨2, (up.getD i 0 : Nat), bNil, noTy⟩) (l := []) (by show bNil.size ≤ maxLen; decide +kernel) ?_ Rep.Sl.nil, ?_, Mods.below (by go_grown)⟩
    · exact Ty.In_keep (fun b hb => heap_old (by have := (HS.out b hb).1; simp; omega) (heap_old (by have := (HS.out b hb).1; simp; omega) (heap_old (HS.out b hb).1 rfl))) (fun b hb => Or.inl hb) _ _ _ HTY.out
    · exact heap_old (by simp; omega) (heap_old (by simp; omega) (heap_old hbl HB.out))
  · have hnv : ∀ i, v ≠ .var i := fun i e => hv ⟨i, e⟩
    have hof := Nm.of_eq hnv up n
    unfold NamesAt
    rw [hof.1, hof.2]
    clear hof
    rw [Tv.tm_eq] at h
    obtain ⟨u0, u1, vs, rfl, hnm, hty, hl⟩ := Tm.open_ h
    obtain ⟨sa, Aa, na, ca, rfl, rfl⟩ := hty.shape
    have HL := Lib.hid hl
    have hkl := v.kids_len
    have t2 : (v.lab.kind == 2) = false := by cases v <;> first | rfl | exact absurd rfl (hnv _)
    have hab : ((v.lab.kind == 3) = true ∧ v.ups up n = (n + 1) :: up ∧ v.upn n = n + 1 ∧ v.nlab n = ⟨v.lab.kind, (n + 1 : Nat), v.lab.nm, v.lab.ty⟩) ∨ ((v.lab.kind == 3) = false ∧ v.ups up n = up ∧ v.upn n = n ∧ v.nlab n = ⟨v.lab.kind, 0, v.lab.nm, v.lab.ty⟩) := by
      cases v <;> first | exact absurd rfl (hnv _) | exact Or.inr ⟨rfl, rfl, rfl, rfl⟩ | exact Or.inl ⟨rfl, rfl, rfl, rfl⟩
    obtain ⟨A, m, c, rfl, hln, hm, _⟩ := hl
    rw [List.length_map] at hln
    subst hln
    have HNM := Lib.hid hnm
    generalize v.lab = lab at *
    obtain ⟨kd, nx, ix, ty⟩ := lab
    simp only at hty hab t2
    clear h hnm hm hv
    have HS := Lib.hid hS
    have HN := Lib.hid hN
    have HTY := Lib.hid hty
    have HBN := Lib.hid hbn
    have HUP := Lib.hid hup
    have HSU := Lib.hid hSU
    clear hS hN hty hbn hup hSU
    go_enter Tryd.func42, Tryd.ntmps42
    go_upto_if 32 with (fail)
    go_cut [1] (fun s1 wx => UpAt wx (fun k => SU k ∨ (w.heap.size + 3 ≤ k ∧ k < wx.heap.size)) s1 (Tv.ups v up n) ∧ Mods (· = bn) w.heap.size w wx ∧ w.heap.size + 3 ≤ wx.heap.size ∧ wx.heap[bn]? = some (.cells #[.int .i64 (v.upn n : Nat)] 3 (0, 0)) ∧
      wx.heap[w.heap.size]? = some (.cells #[.int .i64 kd, .string nx, .int .i64 ix, .string sa, .slice Aa na ca, .slice A v.kids.length c] 27 (0, 0)) ∧
      wx.heap[w.heap.size + 1]? = some (.cells #[.int .i64 0, .int .i64 0, .string ⟨#[]⟩, .string ⟨#[]⟩, .slice none 0 0, .slice none 0 0] 65 (0, 0)) ∧
      wx.heap[w.heap.size + 1 + 1]? = some (.cells #[.int .i64 kd, .int .i64 (v.nlab n).id, .string nx, .string sa, .slice Aa na ca, .slice none 0 0] 65 (0, 0)))
    case first =>
      rcases hab with ⟨t3, hups, hupn, hnl⟩ | ⟨t3, hups, hupn, hnl⟩
      · obtain ⟨i0, hi0, hz0, hz1, hz2⟩ := info_parts infoIntN
        go_upto_region 8 with (fail)
        refine gen_last (fun wx => Mods (· = bn) w.heap.size w wx ∧ (wx.heap.size ≤ w.heap.size + 3 ∧ w.heap.size + 3 ≤ wx.heap.size) ∧ wx.heap[bn]? = some (.cells #[.int .i64 ((n : Int) + 1)] 3 (0, 0)) ∧
          wx.heap[w.heap.size]? = some (.cells #[.int .i64 kd, .string nx, .int .i64 ix, .string sa, .slice Aa na ca, .slice A v.kids.length c] 27 (0, 0)) ∧
          wx.heap[w.heap.size + 1]? = some (.cells #[.int .i64 0, .int .i64 0, .string ⟨#[]⟩, .string ⟨#[]⟩, .slice none 0 0, .slice none 0 0] 65 (0, 0)) ∧
          wx.heap[w.heap.size + 1 + 1]? = some (.cells #[.int .i64 kd, .int .i64 ((n : Int) + 1), .string nx, .string sa, .slice Aa na ca, .slice none 0 0] 65 (0, 0))) ?_ ?_
        · refine ⟨?_, by simp [size_set],
            heap_old (by simp [size_set]; omega) (heap_old (by simp [size_set]; omega) (heap_old (by simp [size_set]; omega) (heap_set HBN.out 0 _))), heap_old (by simp [size_set] <;> omega) (heap_old (by simp [size_set]) (heap_at (by simp [size_set]))), heap_old (by simp [size_set]) (heap_at (by simp [size_set])), heap_at (by simp [size_set])⟩
          refine Mods.alloc (Mods.alloc (Mods.alloc (Mods.setP (P := (· = bn)) Mods.refl (rfl : bn = bn) _) ?_ _) ?_ _) ?_ _
          all_goals (simp [size_set] <;> omega)
        rintro wx ⟨hmo, zx, hbx, hx0, hx1', hx2⟩
        have hsx : ∀ b, SU b → b < wx.heap.size := fun b hb => by have := (HSU.out b hb).1; omega
        obtain ⟨xs, hxa, hxn, hxl, hx1⟩ := (HUP.out.keep (w' := wx) (fun b hb => hmo.block b (HSU.out b hb).1 (HSU.out b hb).2) (fun _ h => h)).news
        have HXA := Lib.hid hxa
        have HXN := Lib.hid hxn
        have HXL := Lib.hid hxl
        have HX1 := Lib.hid hx1
        have HMO := Lib.hid hmo
        have HSX := Lib.hid hsx
        have HBX := Lib.hid hbx
        have HX0 := Lib.hid hx0
        have HX1P := Lib.hid hx1'
        clear hxa hxn hxl hx1 hmo hsx hbx hx0 hx1'
        have hx2_0 := cv0 hx2
        have hx2_1 := cv1 hx2
        have hx2_2 := cv2 hx2
        have hx2_3 := cv3 hx2
        have hx2_4 := cv4 hx2
        have hx2_5 := cv5 hx2
        have hx2_l := lt_heap hx2
        have HX2 := Lib.hid hx2
        clear hx2
        go_region_law (first
          | (refine step_append_all _ (by rfl) (.tmp 42) (.tmp 43) _ (by rfl) wx.heap.size 3 i0 _ 1 8 Tryd.underlying57 hi0 hz0 hz1 hz2 rfl (by omega) _ 0 [] rfl (ownsRow_made (by first | exact heap_drew (heap_at rfl) | exact heap_drew (heap_at (by simp)) | exact heap_drew (heap_old (by simp) (heap_at rfl))) (by omega)) _ up.length xs rfl HXL.out (HXN.out.to (fun b hb => by have := HSX.out b hb; first | exact heap_drew (heap_old (by omega) rfl) | exact heap_drew (heap_old (by first | omega | (simp; omega)) (heap_old (by omega) rfl)))) HX1.out (by unfold maxLen; omega) (by omega) (by first | omega | (simp; done) | (simp; omega)) _ rfl up.length (by omega) ?_; intro A3 c3 w3 hown3 hgrow3 hat3; change World.grownBy _ w3 (some _) at hgrow3; have hb3 : Below wx.heap.size wx w3 := (show Below wx.heap.size wx _ by go_grown).grown hgrow3 (by first | omega | (simp; done) | (simp; omega)) (by intro k e; injection e with e; first | omega | (simp at e; omega)); have z3 : wx.heap.size + 1 ≤ w3.heap.size := (by have := hgrow3.size; first | omega | (simp at this; omega)); have r2 := (hb3.block _ hx2_l).trans HX2.out; have r2_1 := cv1 r2; have r2_l := lt_heap r2; (first | (have r47 : w3.heap[wx.heap.size + 1]? = some (.cells #[.int .i64 ((n : Int) + 1)] 3 (0, 0)) := (hgrow3.block _ (by simp) (by simp)).trans (heap_drew (heap_at (by simp))); have R47 := Lib.hid r47; clear r47) | (have r47 : w3.heap[wx.heap.size]? = some (.cells #[.int .i64 ((n : Int) + 1)] 3 (0, 0)) := (hgrow3.block _ (by first | omega | (simp; done) | (simp; omega)) (by simp)).trans (heap_drew (heap_old (by simp) (heap_at rfl))); have R47 := Lib.hid r47; clear r47) | skip); have HOWN3 := Lib.hid hown3; have HB3 := Lib.hid hb3; clear hown3 hb3 hgrow3 hat3 r2)
          | (refine step_append_all _ (by rfl) (.tmp 44) (.tmp 47) _ (by rfl) wx.heap.size 3 i0 _ 1 8 Tryd.underlying57 hi0 hz0 hz1 hz2 rfl (by omega) (.slice A3 up.length c3) up.length ([] ++ xs) (by rfl) (by first | exact HOWN3.out | exact HOWN3.out.alloc _) _ 1 [.int .i64 ((n : Int) + 1)] (by rfl) rfl (Or.inr ⟨_, _, rfl, World.news_of_block (cs := #[.int .i64 ((n : Int) + 1)]) (by first | exact R47.out | exact heap_at rfl)⟩) (by simp [Value.oneCell']) (by unfold maxLen; omega) (by omega) (by first | omega | (simp; omega)) _ rfl (up.length + 1) rfl ?_; intro A4 c4 w4 hown4 hgrow4 hat4; have hb4 : Below wx.heap.size wx w4 := (show Below wx.heap.size wx _ by first | exact HB3.out | exact HB3.out.alloc (by omega) _).grown hgrow4 (by first | omega | (simp; omega)) (fun k e => (HOWN3.out.lt k e).1); have z4 : wx.heap.size + 1 ≤ w4.heap.size := (by have := hgrow4.size; (first | omega | (simp at this; omega))); have HOWN4 := Lib.hid hown4; have HB4 := Lib.hid hb4; clear hown4 hb4 hgrow4 hat4)
          | fail)
        all_goals
          go_wp2_with fail
          go_meet
          rw [hups, hupn, hnl]
          have hk4 := HB4.out.block
          have e1 : ((n + 1 : Nat) : Int) = (n : Int) + 1 := by omega
          refine ⟨UpAt.snoc (id := n + 1) HXA.out (fun b hb => hk4 b (HSX.out b hb)) (fun b hb => Or.inl hb) (by rw [e1]; exact HOWN4.out) rfl (by unfold maxLen; omega) (fun g h1 h2 => Or.inr ⟨by omega, h2⟩), HMO.out.thenBelow (HB4.out.mono (by omega)), by omega, ?_, ?_, ?_, ?_⟩
          · rw [e1]; exact (hk4 bn (by omega)).trans HBX.out
          · exact (hk4 _ (by omega)).trans HX0.out
          · exact (hk4 _ (by omega)).trans HX1P.out
          · simp only [e1]; exact (hk4 _ (by omega)).trans HX2.out
      · go_wp2_with fail
        go_meet
        rw [hups, hupn, hnl]
        have hgr : Below w.heap.size w (((w.alloc (.cells #[.int .i64 kd, .string nx, .int .i64 ix, .string sa, .slice Aa na ca, .slice A v.kids.length c] 27)).alloc (.cells #[.int .i64 0, .int .i64 0, .string ⟨#[]⟩, .string ⟨#[]⟩, .slice none 0 0, .slice none 0 0] 65)).alloc (.cells #[.int .i64 kd, .int .i64 0, .string nx, .string sa, .slice Aa na ca, .slice none 0 0] 65)) := by go_grown
        refine ⟨HUP.out.keep (fun b hb => hgr.block b (HSU.out b hb).1) (fun b hb => Or.inl hb), Mods.below hgr, by simp, (hgr.block bn hbl).trans HBN.out, heap_old (by simp <;> omega) (heap_old (by simp) (heap_at rfl)), heap_old (by simp) (heap_at (by simp)), heap_at (by simp)⟩
    case rest =>
    obtain ⟨hup1, hmo, zx, hbx, hx0, hx1, hx2⟩ := hcut
    rename World => wx
    have hnl : v.nlab n = ⟨kd, (v.nlab n).id, nx, ty⟩ := by
      rcases hab with ⟨_, _, _, h⟩ | ⟨_, _, _, h⟩ <;> (rw [h])
    have hul := v.ups_len up n
    have hks := v.kids_sum
    have hoth := of_thr_le (v.ups up n) v.kids (v.upn n)
    obtain ⟨i0, hi0, hz0, hz1, hz2⟩ := info_parts infoNamed
    have hSx : ∀ b, S b → wx.heap[b]? = w.heap[b]? := fun b hb => hmo.block b (HS.out b hb).1 (HS.out b hb).2
    clear hab e0 e0f hoth
    have HUP1 := Lib.hid hup1
    have HMO := Lib.hid hmo
    have HX1 := Lib.hid hx1
    have HNL := Lib.hid hnl
    have HSX := Lib.hid hSx
    have HX2 := Lib.hid hx2
    have HBX := Lib.hid hbx
    clear hup1 hmo hx1 hnl hSx hx2 hbx
    have hx0_0 := cv0 hx0
    have hx0_1 := cv1 hx0
    have hx0_2 := cv2 hx0
    have hx0_3 := cv3 hx0
    have hx0_4 := cv4 hx0
    have hx0_5 := cv5 hx0
    have hx0_l := lt_heap hx0
    have HX0 := Lib.hid hx0
    clear hx0
    go_wp2_with fail
    go_loopg [52] v.kids.length (fun k vi wr => ∃ (j : Nat) (q : Value), j + k = v.kids.length ∧ vi = .int .i64 j ∧
      (wr.heap[w.heap.size]? = some (.cells #[.int .i64 kd, .string nx, .int .i64 ix, .string sa, .slice Aa na ca, .slice A v.kids.length c] 27 (0, 0)) ∧
      wr.heap[w.heap.size + 1]? = some (.cells #[.int .i64 0, .int .i64 0, .string ⟨#[]⟩, .string ⟨#[]⟩, .slice none 0 0, .slice none 0 0] 65 (0, 0)) ∧
      wr.heap[w.heap.size + 1 + 1]? = some (.cells #[.int .i64 kd, .int .i64 (v.nlab n).id, .string nx, .string sa, .slice Aa na ca, q] 65 (0, 0))) ∧
      nmRep.Own 65 wx.heap.size wr (New S wx.heap.size wr) q ((thr (fun x k => Nm.of x (v.ups up n) k) (v.kids.take j) (v.upn n)).1.map Nm.tr) ∧
      wr.heap[bn]? = some (.cells #[.int .i64 ((thr (fun x k => Nm.of x (v.ups up n) k) (v.kids.take j) (v.upn n)).2 : Nat)] 3 (0, 0)) ∧
      UpAt wr (fun k => SU k ∨ (w.heap.size + 3 ≤ k ∧ k < wx.heap.size)) u1 (v.ups up n) ∧ Mods (· = bn) w.heap.size w wr ∧ wx.heap.size ≤ wr.heap.size)
    case atStart =>
      exact ⟨0, .slice none 0 0, by omega, rfl, ⟨HX0.out, HX1.out, HX2.out⟩, by simpa [thr] using Rep.Own.nil, by simpa [thr] using HBX.out, HUP1.out, HMO.out, Nat.le_refl _⟩
    case round =>
      obtain ⟨j, q, hj, rfl, ⟨hx0, hx1, hx2⟩, hown, hbr, hupr, hmr, zr⟩ := hrel
      obtain ⟨Aq, cq, hq⟩ := hown.len
      have hlen : ((thr (fun x k => Nm.of x (v.ups up n) k) (v.kids.take j) (v.upn n)).1.map Nm.tr).length = j := by rw [List.length_map, thr_len]; simp; omega
      rw [hlen] at hq
      subst hq
      have hblk : ∀ k, (Value.slice Aq j cq).ownBlock = some k → wx.heap.size ≤ k ∧ k < wr.heap.size := hown.block
      have hkS : ∀ b, S b → wr.heap[b]? = w.heap[b]? := fun b hb => hmr.block b (HS.out b hb).1 (HS.out b hb).2
      clear hx0_0 hx0_1 hx0_2 hx0_3 hx0_4 hx0_5 hx0_l
      have HOWN := Lib.hid hown
      have HBR := Lib.hid hbr
      have HUPR := Lib.hid hupr
      have HMR := Lib.hid hmr
      have HLEN := Lib.hid hlen
      have HBLK := Lib.hid hblk
      have HKS := Lib.hid hkS
      clear hown hbr hupr hmr hlen hblk hkS
      have hx0_0 := cv0 hx0
      have hx0_1 := cv1 hx0
      have hx0_2 := cv2 hx0
      have hx0_3 := cv3 hx0
      have hx0_4 := cv4 hx0
      have hx0_5 := cv5 hx0
      have hx0_l := lt_heap hx0
      have HX0 := Lib.hid hx0
      clear hx0
      have hx1_0 := cv0 hx1
      have hx1_1 := cv1 hx1
      have hx1_2 := cv2 hx1
      have hx1_3 := cv3 hx1
      have hx1_4 := cv4 hx1
      have hx1_5 := cv5 hx1
      have hx1_f0 := free_heap hx1 0
      have hx1_f1 := free_heap hx1 1
      have hx1_f2 := free_heap hx1 2
      have hx1_f3 := free_heap hx1 3
      have hx1_f4 := free_heap hx1 4
      have hx1_f5 := free_heap hx1 5
      have hx1_l := lt_heap hx1
      have HX1 := Lib.hid hx1
      clear hx1
      have hx2_0 := cv0 hx2
      have hx2_1 := cv1 hx2
      have hx2_2 := cv2 hx2
      have hx2_3 := cv3 hx2
      have hx2_4 := cv4 hx2
      have hx2_5 := cv5 hx2
      have hx2_f0 := free_heap hx2 0
      have hx2_f1 := free_heap hx2 1
      have hx2_f2 := free_heap hx2 2
      have hx2_f3 := free_heap hx2 3
      have hx2_f4 := free_heap hx2 4
      have hx2_f5 := free_heap hx2 5
      have hx2_l := lt_heap hx2
      have HX2 := Lib.hid hx2
      clear hx2
      by_cases hjl : j < v.kids.length
      · obtain ⟨b, o, kc, rfl, hSb, hkr, hkc⟩ := Rep.Sl.at_ HL.out (k := j) (a := v.kids[j].tm) (by simp [hjl])
        obtain ⟨s1, A1, n1, c1, B1, m1, d1, rfl, _, _⟩ := Tm.shape hkr
        have hk := HKS.out b hSb
        have e0 : wr.cell? ⟨b, o + j * 6, none⟩ = _ := (cell_keep hk _).trans (hkc 0 _ rfl)
        have e1 : wr.cell? ⟨b, o + j * 6 + 1, none⟩ = _ := (cell_keep hk _).trans (hkc 1 _ rfl)
        have e2 : wr.cell? ⟨b, o + j * 6 + 2, none⟩ = _ := (cell_keep hk _).trans (hkc 2 _ rfl)
        have e3 : wr.cell? ⟨b, o + j * 6 + 3, none⟩ = _ := (cell_keep hk _).trans (hkc 3 _ rfl)
        have e4 : wr.cell? ⟨b, o + j * 6 + 4, none⟩ = _ := (cell_keep hk _).trans (hkc 4 _ rfl)
        have e5 : wr.cell? ⟨b, o + j * 6 + 5, none⟩ = _ := (cell_keep hk _).trans (hkc 5 _ rfl)
        have hSbb := (HS.out b hSb).1
        have zb : b < wr.heap.size := by omega
        have q0 : (0 : Int) ≤ (j : Int) := by omega
        have q1 : (j : Int) < (v.kids.length : Int) := by omega
        have hnj := v.kids_nodes j hjl
        have hst := sum_take_le Tv.nodes v.kids j hjl
        have hot := of_thr_le (v.ups up n) (v.kids.take j) (v.upn n)
        have hth := thr_take (fun x k => Nm.of x (v.ups up n) k) hjl (v.upn n)
        generalize hTj : thr (fun x k => Nm.of x (v.ups up n) k) (v.kids.take j) (v.upn n) = Tj at *
        have hih := Lib.hid (IH.out v.kids[j] (v.ups up n) Tj.2 [.int .i64 v.kids[j].tm.lab.kind, .string v.kids[j].tm.lab.nm, .int .i64 v.kids[j].tm.lab.ix, .string s1, .slice A1 n1 c1, .slice B1 m1 d1] u1 wr.drew S (fun k => SU k ∨ (w.heap.size + 3 ≤ k ∧ k < wx.heap.size)) bn (by have := HN.out; omega) (by rw [hul.1]; exact v.ok_kids up.length j hok hjl) (by omega) (by omega) (tmRep.keep hkr (fun k hk => HKS.out k hk) (fun _ h => h)) (HUPR.out.keep (fun _ _ => rfl) (fun _ h => h)) (fun k hk => ⟨by show k < wr.heap.size; have := (HS.out k hk).1; omega, (HS.out k hk).2⟩) (by
          rintro k (hk | hk)
          · exact ⟨by show k < wr.heap.size; have := (HSU.out k hk).1; omega, (HSU.out k hk).2⟩
          · exact ⟨by show k < wr.heap.size; omega, by omega⟩) HBR.out)
        clear hkr hkc hk hnj hst hot
        have HIH := Lib.hid hih
        have HTH := Lib.hid hth
        clear hih hth
        have hxc : w.heap.size + 1 + 1 < wr.heap.size := by omega
        have hb0 : w.heap.size ≠ bn := by omega
        have hb1 : w.heap.size + 1 ≠ bn := by omega
        have hb2 : w.heap.size + 1 + 1 ≠ bn := by omega
        go_wp2_with fail
        go_region_law (first
            | (refine step_call (by rfl) 42 _ (by go_simp) HIH.out.out ?_; rintro e w2 ⟨ds, rfl, hu, hc2, hm2⟩; refine ⟨_, rfl, ?_⟩; obtain ⟨s2, A2, n2, c2, B2, m2, d2, rfl, _, _⟩ := Nt.shape hu; have z2 : wr.heap.size ≤ w2.heap.size := hm2.size; have k0 := (hm2.block _ hx0_l hb0).trans HX0.out; have k1 := (hm2.block _ hx1_l hb1).trans HX1.out; have k2 := (hm2.block _ hx2_l hb2).trans HX2.out; have k2_5 := cv5 k2; have k2_f := free_heap k2 5; have d3 : w.heap.size + 1 + 1 < w2.heap.size := (by omega); have hkS2 : ∀ b, S b → w2.heap[b]? = wr.heap[b]? := (fun b hb => hm2.block b (by show b < wr.heap.size; have := (HS.out b hb).1; omega) (HS.out b hb).2); have hown2 := HOWN.out.growEx (w' := w2) hkS2 (fun b h1 h2 => hm2.block b h2 (by omega)) z2; obtain ⟨xs, hownx, hallx⟩ := id hown2; rw [HLEN.out] at hownx; have HOWNX := Lib.hid hownx; have HALLX := Lib.hid hallx; have HU := Lib.hid hu; have HM2 := Lib.hid hm2; have HC2 := Lib.hid hc2; have K0 := Lib.hid k0; have K1 := Lib.hid k1; have K2 := Lib.hid k2; clear hu hm2 hc2 k0 k1 k2 hkS2 hown2 hownx hallx)
            | (refine step_append_lies _ (by rfl) (.tmp 56) (.tmp 65) _ (by rfl) wx.heap.size 65 i0 _ 6 96 Tryd.underlying63 hi0 hz0 hz1 hz2 rfl (by omega) (.slice Aq j cq) j xs (by rfl) (HOWNX.out.alloc _) ⟨w2.heap.size, 0, none⟩ 1 1 [.int .i64 (Nm.of v.kids[j] (v.ups up n) Tj.2).1.tr.lab.kind, .int .i64 (Nm.of v.kids[j] (v.ups up n) Tj.2).1.tr.lab.id, .string (Nm.of v.kids[j] (v.ups up n) Tj.2).1.tr.lab.nm, .string s2, .slice A2 n2 c2, .slice B2 m2 d2] (by rfl) (by rfl) (World.news_of_block (cs := #[.int .i64 (Nm.of v.kids[j] (v.ups up n) Tj.2).1.tr.lab.kind, .int .i64 (Nm.of v.kids[j] (v.ups up n) Tj.2).1.tr.lab.id, .string (Nm.of v.kids[j] (v.ups up n) Tj.2).1.tr.lab.nm, .string s2, .slice A2 n2 c2, .slice B2 m2 d2]) (t := 65) (fr := (0, 0)) (heap_alloc_new w2 _)) (by simp [Value.oneCell']) (by omega) (by unfold maxLen; omega) (by omega) (by simp; omega) (w2.heap.size + 1) (by simp) ?_; intro gg cap w3 hown3 hgrow hat hlt; have kk : ∀ b, b < w2.heap.size → (Value.slice Aq j cq).ownBlock ≠ some b → w3.heap[b]? = w2.heap[b]? := (fun b hb hne => (hgrow.block b (by simp; omega) (fun e => hne e.symm)).trans (heap_old hb rfl)); have h3 := (kk (w.heap.size + 1 + 1) d3 (fun e => by have := (HBLK.out _ e).1; omega)).trans K2.out; have h4 := (kk (w.heap.size + 1) (by omega) (fun e => by have := (HBLK.out _ e).1; omega)).trans K1.out; have h5 := (kk w.heap.size (by omega) (fun e => by have := (HBLK.out _ e).1; omega)).trans K0.out; have h3_5 := cv5 h3; have h3_f := free_heap h3 5; have H3 := Lib.hid h3; have H4 := Lib.hid h4; have H5 := Lib.hid h5; clear h3 h4 h5; have z3 : w2.heap.size + 1 ≤ w3.heap.size := (by have := hgrow.size; simpa using this); have HOWN3 := Lib.hid hown3; have HGROW := Lib.hid hgrow; have HAT := Lib.hid hat; have HKK := Lib.hid kk; clear hown3 hgrow hat kk)
            | fail)
        all_goals
          go_wp2_with fail
          go_roundg (v.kids.length - (j + 1))
          case measure => omega
          case rel =>
            have hstep := Rep.stepEx (E := 65) (S := S) (base := wx.heap.size) (a := (Nm.of v.kids[j] (v.ups up n) Tj.2).1.tr) HLEN.out (fun b hb => by have := (HS.out b hb).1; omega) (by omega) HALLX.out HU.out (fun b hb => by
              rcases hb with hb | ⟨hb, hb'⟩
              · exact ⟨Or.inl hb, fun e => by have := (HBLK.out b e).1; have := (HS.out b hb).1; omega⟩
              · have h' : wr.heap.size ≤ b := hb
                exact ⟨Or.inr ⟨by omega, hb'⟩, fun e => by have := (HBLK.out b e).2; omega⟩) HOWN3.out HGROW.out HAT.out
            have hkb : w3.heap[bn]? = w2.heap[bn]? := HKK.out bn (by omega) (fun e => by have := (HBLK.out _ e).1; omega)
            have hm3 : Mods (· = bn) w.heap.size w w3 := ((HMR.out.drew.trans (HM2.out.mono (B' := w.heap.size) (by show w.heap.size ≤ wr.heap.size; omega))).alloc (by omega) _).grown HGROW.out (by simp; omega) (fun k hk => by have := (HBLK.out k hk).1; omega)
            have hkg : ∀ k, k ≠ w.heap.size + 1 + 1 → (w3.setCell ⟨w.heap.size + 1 + 1, 5, none⟩ (.slice (some ⟨gg, 0, none⟩) (j + 1) cap)).heap[k]? = w3.heap[k]? := fun k hk => heap_far _ hk rfl
            refine ⟨j + 1, .slice (some ⟨gg, 0, none⟩) (j + 1) cap, by omega, by go_num, ⟨(hkg _ (by omega)).trans H5.out, (hkg _ (by omega)).trans H4.out, heap_set H3.out 5 _⟩, ?_, ?_, ?_, hm3.setCell (by simp <;> omega) _, by rw [size_set]; omega⟩
            · rw [HTH.out, List.map_append]
              exact hstep.growEx (fun b hb => hkg b (by have := (HS.out b hb).1; omega)) (fun b hb _ => hkg b (by omega)) (by rw [size_set]; omega)
            · rw [HTH.out]
              exact (hkg bn (by omega)).trans (hkb.trans HC2.out)
            · exact HUPR.out.keep (fun b hb => by
                have h1 : b < wr.heap.size ∧ b ≠ bn ∧ b ≠ w.heap.size + 1 + 1 ∧ (Value.slice Aq j cq).ownBlock ≠ some b := by
                  rcases hb with hb | hb
                  · have := HSU.out b hb
                    exact ⟨by omega, this.2, by omega, fun e => by have := (HBLK.out b e).1; omega⟩
                  · exact ⟨by omega, by omega, by omega, fun e => by have := (HBLK.out b e).1; omega⟩
                exact (hkg b h1.2.2.1).trans ((HKK.out b (by omega) h1.2.2.2).trans (HM2.out.block b h1.1 h1.2.1))) (fun _ h => h)
      · go_wp2_with fail
        have hjk : j = v.kids.length := by omega
        refine bodyPost_ret (v := .agg #[.int .i64 kd, .int .i64 (v.nlab n).id, .string nx, .string sa, .slice Aa na ca, .slice Aq j cq]) (by simp [results, Tryd.results42, go_sem, hx1_0, hx1_1, hx1_2, hx1_3, hx1_4, hx1_5, hx1_l]) rfl ?_
        have hown := HOWN.out
        have hbr := HBR.out
        rw [hjk, List.take_length] at hown hbr
        refine ⟨[.int .i64 kd, .int .i64 (v.nlab n).id, .string nx, .string sa, .slice Aa na ca, .slice Aq j cq], rfl, ?_, far6 (by omega) hbr, (((((HMR.out.setCell (by simp) _).setCell (by simp) _).setCell (by simp) _).setCell (by simp) _).setCell (by simp) _).setCell (by simp) _⟩
        rw [HNL.out]
        refine Nt.shut (a := ⟨kd, (v.nlab n).id, nx, ty⟩) HNM.out ?_ ?_
        · exact Ty.In_keep (fun b hb => far6 (by have := (HS.out b hb).1; omega) (HKS.out b hb)) (fun b hb => Or.inl hb) _ _ _ HTY.out
        · rw [hjk]
          exact (Rep.Own.sl (S' := New S wx.heap.size wr) hown (by rw [List.length_map, thr_len]; unfold maxLen; omega) (fun b hb => hb) (fun b h1 h2 => Or.inr ⟨h1, h2⟩)).keep (fun b hb => far6 (by rcases hb with hb | hb; have := (HS.out b hb).1; omega; omega) rfl) (fun b hb => hb.imp_right (fun h => ⟨by omega, lt6 h.2⟩))


theorem pos_spec : ∀ (l : List Nat) (x k : Nat), (∀ i, i < k → l.getD i 0 ≠ x) → k ≤ l.length → (k = l.length ∨ l.getD k 0 = x) → pos l x = k
  | [], x, k, _, hk, _ => by simp at hk; simp [pos, hk]
  | a :: l, x, 0, _, _, h => by
    have : a = x := by simpa using h
    simp [pos, this]
  | a :: l, x, k + 1, h, hk, h' => by
    have h0 := h 0 (by omega)
    have h1 := pos_spec l x k (fun i hi => by simpa using h (i + 1) (by omega)) (by simpa using hk) (by simpa using h')
    have h0' : ¬ a = x := by simpa using h0
    simp [pos, h0', h1]

theorem wrap_ok (n : Int) (h0 : -9223372036854775808 ≤ n) (h1 : n < 9223372036854775808) : IntKind.i64.wrap n = n := by
  unfold IntKind.wrap
  simp [IntKind.bits, IntKind.signed]
  omega
/-- What back leaves. -/
def BackAt (v : Nm) (up : List Nat) (w : World) (S : Nat → Prop) (e : Ending) (w' : World) : Prop :=
  ∃ es : List Value, e = .returned (.agg es.toArray) ∧ tmRep.R w' (Ex S w w') (v.tv up).tm es ∧ Below w.heap.size w w'

theorem Nm.bup_len (v : Nm) (up : List Nat) : (v.bup up).length ≤ up.length + 1 := by cases v <;> simp [Nm.bup]
theorem Nm.nodes_sum (v : Nm) : v.nodes = 1 + (v.kids.map Nm.nodes).sum := by cases v <;> simp [Nm.kids, Nm.nodes] <;> omega

set_option maxRecDepth 100000 in
set_option maxHeartbeats 4000000 in
theorem back_any : ∀ (N : Nat) (v : Nm) (up : List Nat) (cs : List Value) (uv : Value) (w : World) (S SU : Nat → Prop), v.nodes ≤ N → up.length + v.nodes ≤ 1000000 → nmRep.R w S v.tr cs → UpAt w SU uv up → (∀ b, S b → b < w.heap.size) → (∀ b, SU b → b < w.heap.size) →
    Calls Tryd.prog 43 #[.agg cs.toArray, uv] w (BackAt v up w S) := by
  intro N
  induction N with
  | zero => intro v; have := v.nodes_pos; intros; omega
  | succ N ih =>
  intro v up cs uv w S SU hN hub h hup hS hSU
  have IH := Lib.hid ih
  clear ih
  have hnp := v.nodes_pos
  obtain ⟨Au, cu, rfl⟩ := hup.shape
  by_cases hv : ∃ i, v = .var i
  · obtain ⟨i, rfl⟩ := hv
    obtain ⟨u0, u1, vs, rfl, hnm, hty, hl⟩ := Nt.open_ (a := ⟨2, (i : Int), bNil, noTy⟩) (l := []) h
    obtain ⟨sa, Aa, na, ca, rfl, rfl⟩ := hty.shape
    obtain ⟨A, m, cp, rfl, hln, hm, _⟩ := hl
    simp only [List.length_nil] at hln
    subst hln
    have hul : up.length ≤ 1000000 := by omega
    have w1 : IntKind.i64.wrap ((up.length : Int) - 1) = (up.length : Int) - 1 := wrap_ok _ (by omega) (by omega)
    clear h hm hN hnm
    have HS := Lib.hid hS
    have HTY := Lib.hid hty
    have HUP := Lib.hid hup
    have HSU := Lib.hid hSU
    clear hS hty hup hSU
    go_enter Tryd.func43, Tryd.ntmps43
    go_wp2_with fail
    go_loopg [6] up.length (fun k v6 wr => ∃ (j : Nat) (m : Int), j + k = up.length ∧ v6 = .int .i64 m ∧ m + 1 + j = up.length ∧ (∀ q, q < j → up.getD q 0 ≠ i) ∧
      (wr.heap[w.heap.size]? = some (.cells #[.int .i64 2, .int .i64 (i : Int), .string bNil, .string sa, .slice Aa na ca, .slice A 0 cp] 65 (0, 0)) ∧ wr.heap[w.heap.size + 1]? = some (.cells #[.int .i64 0, .string ⟨#[]⟩, .int .i64 0, .string ⟨#[]⟩, .slice none 0 0, .slice none 0 0] 27 (0, 0)) ∧ wr.heap[w.heap.size + 1 + 1]? = some (.cells #[.int .i64 2, .string bNil, .int .i64 (j : Int), .string sa, .slice Aa na ca, .slice none 0 0] 27 (0, 0))) ∧ Below w.heap.size w wr ∧ w.heap.size + 3 ≤ wr.heap.size)
    case atStart => exact ⟨0, (up.length : Int) - 1, by omega, rfl, by omega, by simp, ⟨heap_old (by simp <;> omega) (heap_old (by simp) (heap_at rfl)), heap_old (by simp) (heap_at (by simp)), heap_at (by simp)⟩, by go_grown, by simp⟩
    case round =>
      obtain ⟨j, m, hj, rfl, hm, hpre, ⟨hx0, hx1, hx2⟩, hb, zr⟩ := hrel
      have w2 : IntKind.i64.wrap (m - 1) = m - 1 := wrap_ok _ (by omega) (by omega)
      have w3 : IntKind.i64.wrap ((j : Int) + 1) = (j : Int) + 1 := wrap_small _ (by omega) (by omega)
      have HB := Lib.hid hb
      have HPRE := Lib.hid hpre
      have HM := Lib.hid hm
      clear hb hpre hm
      have hx0_0 := cv0 hx0
      have hx0_1 := cv1 hx0
      have hx0_2 := cv2 hx0
      have hx0_3 := cv3 hx0
      have hx0_4 := cv4 hx0
      have hx0_5 := cv5 hx0
      have hx0_l := lt_heap hx0
      have HX0 := Lib.hid hx0
      clear hx0
      have hx1_0 := cv0 hx1
      have hx1_1 := cv1 hx1
      have hx1_2 := cv2 hx1
      have hx1_3 := cv3 hx1
      have hx1_4 := cv4 hx1
      have hx1_5 := cv5 hx1
      have hx1_f0 := free_heap hx1 0
      have hx1_f1 := free_heap hx1 1
      have hx1_f2 := free_heap hx1 2
      have hx1_f3 := free_heap hx1 3
      have hx1_f4 := free_heap hx1 4
      have hx1_f5 := free_heap hx1 5
      have hx1_l := lt_heap hx1
      have HX1 := Lib.hid hx1
      clear hx1
      have hx2_0 := cv0 hx2
      have hx2_1 := cv1 hx2
      have hx2_2 := cv2 hx2
      have hx2_3 := cv3 hx2
      have hx2_4 := cv4 hx2
      have hx2_5 := cv5 hx2
      have hx2_f0 := free_heap hx2 0
      have hx2_f1 := free_heap hx2 1
      have hx2_f2 := free_heap hx2 2
      have hx2_f3 := free_heap hx2 3
      have hx2_f4 := free_heap hx2 4
      have hx2_f5 := free_heap hx2 5
      have hx2_l := lt_heap hx2
      have HX2 := Lib.hid hx2
      clear hx2
      have HMM := HM.out
      by_cases hjl : j < up.length
      · obtain ⟨b, o, hA, hSb, hcell⟩ := HUP.out.at_ hjl
        subst hA
        have hbs := HSU.out b hSb
        have hcell := (cell_keep (HB.out.block b hbs) _).trans hcell
        have zb : b < wr.heap.size := by omega
        have q1 : (0 : Int) ≤ m := by omega
        have q2 : m < (up.length : Int) := by omega
        have q3 : m.toNat = up.length - 1 - j := by omega
        clear HMM
        have hx := Lib.hid (show ∃ x : Nat, up.getD j 0 = x from ⟨_, rfl⟩)
        obtain ⟨x, hx⟩ := hx.out
        rw [hx] at hcell
        by_cases he : x = i
        · have hpos : pos up i = j := pos_spec up i j HPRE.out (by omega) (Or.inr (hx.trans he))
          subst he
          have q4 : ((x : Int) != (x : Int)) = false := by simp
          have HPOS := Lib.hid hpos
          have HX := Lib.hid hx
          clear hpos hx
          go_wp2_with fail
          go_region
          all_goals
            go_wp2_with fail
            refine bodyPost_ret (v := .agg #[.int .i64 2, .string bNil, .int .i64 (j : Int), .string sa, .slice Aa na ca, .slice none 0 0]) (by simp [results, Tryd.results43, go_sem, hx1_0, hx1_1, hx1_2, hx1_3, hx1_4, hx1_5, hx1_l]) rfl ?_
            refine ⟨[.int .i64 2, .string bNil, .int .i64 (j : Int), .string sa, .slice Aa na ca, .slice none 0 0], rfl, ?_, ((((((HB.out.setCell (by simp) _).setCell (by simp) _).setCell (by simp) _).setCell (by simp) _).setCell (by simp) _).setCell (by simp) _).drew⟩
            show tmRep.R _ _ (Tree.mk ⟨2, bNil, (pos up x : Nat), noTy⟩ []) _
            rw [HPOS.out]
            exact Tm.shut (a := ⟨2, bNil, (j : Int), noTy⟩) (l := []) (by show bNil.size ≤ maxLen; decide +kernel) (Ty.In_keep (fun b hb => heap_drew (far6 (by have := HS.out b hb; omega) (HB.out.block b (HS.out b hb)))) (fun b hb => Or.inl hb) _ _ _ HTY.out) Rep.Sl.nil
        · have q4 : ((x : Int) != (i : Int)) = true := by rw [bne_iff_ne]; omega
          have HX := Lib.hid hx
          clear hx
          go_wp2_with fail
          go_region
          all_goals
            go_wp2_with fail
            go_roundg (up.length - (j + 1))
            case measure => omega
            case rel =>
              have hmm := HM.out
              refine ⟨j + 1, m - 1, by omega, rfl, by omega, fun q hq => ?_, ⟨heap_drew (heap_far _ (by omega) HX0.out), heap_drew (heap_far _ (by omega) HX1.out), heap_drew (heap_set HX2.out 2 _)⟩, (HB.out.setCell (by simp <;> omega) _).drew, by show _ ≤ (World.setCell _ _ _).heap.size; rw [size_set]; omega⟩
              rcases Nat.lt_or_ge q j with h | h
              · exact HPRE.out q h
              · obtain rfl : q = j := by omega
                rw [HX.out]; exact he
      · have hpos : pos up i = j := pos_spec up i j HPRE.out (by omega) (Or.inl (by omega))
        obtain rfl : m = -1 := by omega
        clear HMM
        have HPOS := Lib.hid hpos
        clear hpos
        go_wp2_with fail
        go_region
        all_goals
          go_wp2_with fail
          refine bodyPost_ret (v := .agg #[.int .i64 2, .string bNil, .int .i64 (j : Int), .string sa, .slice Aa na ca, .slice none 0 0]) (by simp [results, Tryd.results43, go_sem, hx1_0, hx1_1, hx1_2, hx1_3, hx1_4, hx1_5, hx1_l]) rfl ?_
          refine ⟨[.int .i64 2, .string bNil, .int .i64 (j : Int), .string sa, .slice Aa na ca, .slice none 0 0], rfl, ?_, ((((((HB.out.setCell (by simp) _).setCell (by simp) _).setCell (by simp) _).setCell (by simp) _).setCell (by simp) _).setCell (by simp) _).drew⟩
          show tmRep.R _ _ (Tree.mk ⟨2, bNil, (pos up i : Nat), noTy⟩ []) _
          rw [HPOS.out]
          exact Tm.shut (a := ⟨2, bNil, (j : Int), noTy⟩) (l := []) (by show bNil.size ≤ maxLen; decide +kernel) (Ty.In_keep (fun b hb => heap_drew (far6 (by have := HS.out b hb; omega) (HB.out.block b (HS.out b hb)))) (fun b hb => Or.inl hb) _ _ _ HTY.out) Rep.Sl.nil
  · have hnv : ∀ i, v ≠ .var i := fun i e => hv ⟨i, e⟩
    have hof := Nm.tv_eq hnv up
    unfold BackAt
    rw [hof]
    clear hof
    rw [Nm.tr_eq] at h
    obtain ⟨u0, u1, vs, rfl, hnm, hty, hl⟩ := Nt.open_ h
    obtain ⟨sa, Aa, na, ca, rfl, rfl⟩ := hty.shape
    have HL := Lib.hid hl
    have hkl := v.kids_len
    have hkn := v.kids_nodes
    have hul := v.bup_len up
    have hks := v.nodes_sum
    have t2 : (v.lab.kind == 2) = false := by cases v <;> first | rfl | exact absurd rfl (hnv _)
    have hab : ((v.lab.kind == 3) = true ∧ ∃ i : Nat, v.lab.id = i ∧ v.bup up = i :: up) ∨ ((v.lab.kind == 3) = false ∧ v.bup up = up) := by
      cases v <;> first | exact absurd rfl (hnv _) | exact Or.inr ⟨rfl, rfl⟩ | exact Or.inl ⟨rfl, _, rfl, rfl⟩
    have htl : v.tlab = ⟨v.lab.kind, v.lab.nm, 0, v.lab.ty⟩ := by cases v <;> first | exact absurd rfl (hnv _) | rfl
    rw [htl]
    obtain ⟨A, m, c, rfl, hln, hm, _⟩ := hl
    rw [List.length_map] at hln
    subst hln
    have HNM := Lib.hid hnm
    generalize v.lab = lab at *
    obtain ⟨kd, idn, nx, ty⟩ := lab
    simp only at hty hab t2
    clear h hnm hm hv htl
    obtain ⟨k0, hk0, kz0, kz1, kz2⟩ := info_parts infoTerm
    have HS := Lib.hid hS
    have HN := Lib.hid hN
    have HTY := Lib.hid hty
    have HUP := Lib.hid hup
    have HSU := Lib.hid hSU
    have HKN := Lib.hid hkn
    clear hS hN hty hup hSU hkn
    go_enter Tryd.func43, Tryd.ntmps43
    go_upto_if 41 with (fail)
    go_cut [1] (fun s1 wx => UpAt wx (fun k => SU k ∨ (w.heap.size + 3 ≤ k ∧ k < wx.heap.size)) s1 (v.bup up) ∧ Below w.heap.size w wx ∧ w.heap.size + 3 ≤ wx.heap.size ∧
      wx.heap[w.heap.size]? = some (.cells #[.int .i64 kd, .int .i64 idn, .string nx, .string sa, .slice Aa na ca, .slice A v.kids.length c] 65 (0, 0)) ∧
      wx.heap[w.heap.size + 1]? = some (.cells #[.int .i64 0, .string ⟨#[]⟩, .int .i64 0, .string ⟨#[]⟩, .slice none 0 0, .slice none 0 0] 27 (0, 0)) ∧
      wx.heap[w.heap.size + 1 + 1]? = some (.cells #[.int .i64 kd, .string nx, .int .i64 0, .string sa, .slice Aa na ca, .slice none 0 0] 27 (0, 0)))
    case first =>
      rcases hab with ⟨t3, i, rfl, hups⟩ | ⟨t3, hups⟩
      · obtain ⟨i0, hi0, hz0, hz1, hz2⟩ := info_parts infoIntN
        go_upto_region 9 with (fail)
        refine gen_last (fun wx => Below w.heap.size w wx ∧ (wx.heap.size ≤ w.heap.size + 3 ∧ w.heap.size + 3 ≤ wx.heap.size) ∧
          wx.heap[w.heap.size]? = some (.cells #[.int .i64 kd, .int .i64 (i : Int), .string nx, .string sa, .slice Aa na ca, .slice A v.kids.length c] 65 (0, 0)) ∧
      wx.heap[w.heap.size + 1]? = some (.cells #[.int .i64 0, .string ⟨#[]⟩, .int .i64 0, .string ⟨#[]⟩, .slice none 0 0, .slice none 0 0] 27 (0, 0)) ∧
      wx.heap[w.heap.size + 1 + 1]? = some (.cells #[.int .i64 kd, .string nx, .int .i64 0, .string sa, .slice Aa na ca, .slice none 0 0] 27 (0, 0))) ?_ ?_
        · exact ⟨by go_grown, by simp, heap_old (by simp <;> omega) (heap_old (by simp) (heap_at rfl)), heap_old (by simp) (heap_at (by simp)), heap_at (by simp)⟩
        rintro wx ⟨hmo, zx, hx0, hx1', hx2⟩
        have hsx : ∀ b, SU b → b < wx.heap.size := fun b hb => by have := HSU.out b hb; omega
        obtain ⟨xs, hxa, hxn, hxl, hx1⟩ := (HUP.out.keep (w' := wx) (fun b hb => hmo.block b (HSU.out b hb)) (fun _ h => h)).news
        have HXA := Lib.hid hxa
        have HXN := Lib.hid hxn
        have HXL := Lib.hid hxl
        have HX1 := Lib.hid hx1
        have HMO := Lib.hid hmo
        have HSX := Lib.hid hsx
        have HX2 := Lib.hid hx2
        have HX1P := Lib.hid hx1'
        clear hxa hxn hxl hx1 hmo hsx hx2 hx1'
        have hx0_0 := cv0 hx0
        have hx0_1 := cv1 hx0
        have hx0_2 := cv2 hx0
        have hx0_3 := cv3 hx0
        have hx0_4 := cv4 hx0
        have hx0_5 := cv5 hx0
        have hx0_l := lt_heap hx0
        have HX0 := Lib.hid hx0
        clear hx0
        go_region_law (first
          | (refine step_append_all _ (by rfl) (.tmp 42) (.tmp 43) _ (by rfl) wx.heap.size 3 i0 _ 1 8 Tryd.underlying57 hi0 hz0 hz1 hz2 rfl (by omega) _ 0 [] rfl (ownsRow_made (by first | exact heap_drew (heap_at rfl) | exact heap_drew (heap_at (by simp)) | exact heap_drew (heap_old (by simp) (heap_at rfl))) (by omega)) _ up.length xs rfl HXL.out (HXN.out.to (fun b hb => by have := HSX.out b hb; first | exact heap_drew (heap_old (by omega) rfl) | exact heap_drew (heap_old (by first | omega | (simp; omega)) (heap_old (by omega) rfl)))) HX1.out (by unfold maxLen; omega) (by omega) (by first | omega | (simp; done) | (simp; omega)) _ rfl up.length (by omega) ?_; intro A3 c3 w3 hown3 hgrow3 hat3; change World.grownBy _ w3 (some _) at hgrow3; have hb3 : Below wx.heap.size wx w3 := (show Below wx.heap.size wx _ by go_grown).grown hgrow3 (by first | omega | (simp; done) | (simp; omega)) (by intro k e; injection e with e; first | omega | (simp at e; omega)); have z3 : wx.heap.size + 1 ≤ w3.heap.size := (by have := hgrow3.size; first | omega | (simp at this; omega)); have r2 := (hb3.block _ hx0_l).trans HX0.out; have r2_1 := cv1 r2; have r2_l := lt_heap r2; (first | (have r47 : w3.heap[wx.heap.size + 1]? = some (.cells #[.int .i64 (i : Int)] 3 (0, 0)) := (hgrow3.block _ (by simp) (by simp)).trans (heap_drew (heap_at (by simp))); have R47 := Lib.hid r47; clear r47) | (have r47 : w3.heap[wx.heap.size]? = some (.cells #[.int .i64 (i : Int)] 3 (0, 0)) := (hgrow3.block _ (by first | omega | (simp; done) | (simp; omega)) (by simp)).trans (heap_drew (heap_old (by simp) (heap_at rfl))); have R47 := Lib.hid r47; clear r47) | skip); have HOWN3 := Lib.hid hown3; have HB3 := Lib.hid hb3; clear hown3 hb3 hgrow3 hat3 r2)
          | (refine step_append_all _ (by rfl) (.tmp 44) (.tmp 47) _ (by rfl) wx.heap.size 3 i0 _ 1 8 Tryd.underlying57 hi0 hz0 hz1 hz2 rfl (by omega) (.slice A3 up.length c3) up.length ([] ++ xs) (by rfl) (by first | exact HOWN3.out | exact HOWN3.out.alloc _) _ 1 [.int .i64 (i : Int)] (by rfl) rfl (Or.inr ⟨_, _, rfl, World.news_of_block (cs := #[.int .i64 (i : Int)]) (by first | exact R47.out | exact heap_at rfl)⟩) (by simp [Value.oneCell']) (by unfold maxLen; omega) (by omega) (by first | omega | (simp; omega)) _ rfl (up.length + 1) rfl ?_; intro A4 c4 w4 hown4 hgrow4 hat4; have hb4 : Below wx.heap.size wx w4 := (show Below wx.heap.size wx _ by first | exact HB3.out | exact HB3.out.alloc (by omega) _).grown hgrow4 (by first | omega | (simp; omega)) (fun k e => (HOWN3.out.lt k e).1); have z4 : wx.heap.size + 1 ≤ w4.heap.size := (by have := hgrow4.size; (first | omega | (simp at this; omega))); have HOWN4 := Lib.hid hown4; have HB4 := Lib.hid hb4; clear hown4 hb4 hgrow4 hat4)
          | fail)
        all_goals
          go_wp2_with fail
          go_meet
          rw [hups]
          have hk4 := HB4.out.block
          refine ⟨UpAt.snoc (id := i) HXA.out (fun b hb => hk4 b (HSX.out b hb)) (fun b hb => Or.inl hb) HOWN4.out rfl (by unfold maxLen; omega) (fun g h1 h2 => Or.inr ⟨by omega, h2⟩), HMO.out.trans (HB4.out.mono (by omega)), by omega, ?_, ?_, ?_⟩
          · exact (hk4 _ (by omega)).trans HX0.out
          · exact (hk4 _ (by omega)).trans HX1P.out
          · exact (hk4 _ (by omega)).trans HX2.out
      · go_wp2_with fail
        go_meet
        rw [hups]
        have hgr : Below w.heap.size w (((w.alloc (.cells #[.int .i64 kd, .int .i64 idn, .string nx, .string sa, .slice Aa na ca, .slice A v.kids.length c] 65)).alloc (.cells #[.int .i64 0, .string ⟨#[]⟩, .int .i64 0, .string ⟨#[]⟩, .slice none 0 0, .slice none 0 0] 27)).alloc (.cells #[.int .i64 kd, .string nx, .int .i64 0, .string sa, .slice Aa na ca, .slice none 0 0] 27)) := by go_grown
        refine ⟨HUP.out.keep (fun b hb => hgr.block b (HSU.out b hb)) (fun b hb => Or.inl hb), hgr, by simp, heap_old (by simp <;> omega) (heap_old (by simp) (heap_at rfl)), heap_old (by simp) (heap_at (by simp)), heap_at (by simp)⟩
    case rest =>
    obtain ⟨hup1, hmo, zx, hx0, hx1, hx2⟩ := hcut
    rename World => wx
    clear hab
    have HUP1 := Lib.hid hup1
    have HMO := Lib.hid hmo
    have HX1 := Lib.hid hx1
    have HX2 := Lib.hid hx2
    clear hup1 hmo hx1 hx2
    have hx0_0 := cv0 hx0
    have hx0_1 := cv1 hx0
    have hx0_2 := cv2 hx0
    have hx0_3 := cv3 hx0
    have hx0_4 := cv4 hx0
    have hx0_5 := cv5 hx0
    have hx0_l := lt_heap hx0
    have HX0 := Lib.hid hx0
    clear hx0
    go_wp2_with fail
    go_loopg [52] v.kids.length (fun k vi wr => ∃ (j : Nat) (q : Value), j + k = v.kids.length ∧ vi = .int .i64 j ∧
      (wr.heap[w.heap.size]? = some (.cells #[.int .i64 kd, .int .i64 idn, .string nx, .string sa, .slice Aa na ca, .slice A v.kids.length c] 65 (0, 0)) ∧
      wr.heap[w.heap.size + 1]? = some (.cells #[.int .i64 0, .string ⟨#[]⟩, .int .i64 0, .string ⟨#[]⟩, .slice none 0 0, .slice none 0 0] 27 (0, 0)) ∧
      wr.heap[w.heap.size + 1 + 1]? = some (.cells #[.int .i64 kd, .string nx, .int .i64 0, .string sa, .slice Aa na ca, q] 27 (0, 0))) ∧
      tmRep.Own 27 wx.heap.size wr (New S wx.heap.size wr) q ((v.kids.take j).map fun x => (x.tv (v.bup up)).tm) ∧
      UpAt wr (fun k => SU k ∨ (w.heap.size + 3 ≤ k ∧ k < wx.heap.size)) u1 (v.bup up) ∧ Below w.heap.size w wr ∧ wx.heap.size ≤ wr.heap.size)
    case atStart =>
      exact ⟨0, .slice none 0 0, by omega, rfl, ⟨HX0.out, HX1.out, HX2.out⟩, by simpa using Rep.Own.nil, HUP1.out, HMO.out, Nat.le_refl _⟩
    case round =>
      obtain ⟨j, q, hj, rfl, ⟨hx0, hx1, hx2⟩, hown, hupr, hmr, zr⟩ := hrel
      obtain ⟨Aq, cq, hq⟩ := hown.len
      have hlen : ((v.kids.take j).map fun x => (x.tv (v.bup up)).tm).length = j := by simp; omega
      rw [hlen] at hq
      subst hq
      have hblk : ∀ k, (Value.slice Aq j cq).ownBlock = some k → wx.heap.size ≤ k ∧ k < wr.heap.size := hown.block
      have hkS : ∀ b, S b → wr.heap[b]? = w.heap[b]? := fun b hb => hmr.block b (HS.out b hb)
      clear hx0_0 hx0_1 hx0_2 hx0_3 hx0_4 hx0_5 hx0_l
      have HOWN := Lib.hid hown
      have HUPR := Lib.hid hupr
      have HMR := Lib.hid hmr
      have HLEN := Lib.hid hlen
      have HBLK := Lib.hid hblk
      have HKS := Lib.hid hkS
      clear hown hupr hmr hlen hblk hkS
      have hx0_0 := cv0 hx0
      have hx0_1 := cv1 hx0
      have hx0_2 := cv2 hx0
      have hx0_3 := cv3 hx0
      have hx0_4 := cv4 hx0
      have hx0_5 := cv5 hx0
      have hx0_l := lt_heap hx0
      have HX0 := Lib.hid hx0
      clear hx0
      have hx1_0 := cv0 hx1
      have hx1_1 := cv1 hx1
      have hx1_2 := cv2 hx1
      have hx1_3 := cv3 hx1
      have hx1_4 := cv4 hx1
      have hx1_5 := cv5 hx1
      have hx1_f0 := free_heap hx1 0
      have hx1_f1 := free_heap hx1 1
      have hx1_f2 := free_heap hx1 2
      have hx1_f3 := free_heap hx1 3
      have hx1_f4 := free_heap hx1 4
      have hx1_f5 := free_heap hx1 5
      have hx1_l := lt_heap hx1
      have HX1 := Lib.hid hx1
      clear hx1
      have hx2_0 := cv0 hx2
      have hx2_1 := cv1 hx2
      have hx2_2 := cv2 hx2
      have hx2_3 := cv3 hx2
      have hx2_4 := cv4 hx2
      have hx2_5 := cv5 hx2
      have hx2_f0 := free_heap hx2 0
      have hx2_f1 := free_heap hx2 1
      have hx2_f2 := free_heap hx2 2
      have hx2_f3 := free_heap hx2 3
      have hx2_f4 := free_heap hx2 4
      have hx2_f5 := free_heap hx2 5
      have hx2_l := lt_heap hx2
      have HX2 := Lib.hid hx2
      clear hx2
      by_cases hjl : j < v.kids.length
      · obtain ⟨b, o, kc, rfl, hSb, hkr, hkc⟩ := Rep.Sl.at_ HL.out (k := j) (a := v.kids[j].tr) (by simp [hjl])
        obtain ⟨s1, A1, n1, c1, B1, m1, d1, rfl, _, _⟩ := Nt.shape hkr
        have hk := HKS.out b hSb
        have e0 : wr.cell? ⟨b, o + j * 6, none⟩ = _ := (cell_keep hk _).trans (hkc 0 _ rfl)
        have e1 : wr.cell? ⟨b, o + j * 6 + 1, none⟩ = _ := (cell_keep hk _).trans (hkc 1 _ rfl)
        have e2 : wr.cell? ⟨b, o + j * 6 + 2, none⟩ = _ := (cell_keep hk _).trans (hkc 2 _ rfl)
        have e3 : wr.cell? ⟨b, o + j * 6 + 3, none⟩ = _ := (cell_keep hk _).trans (hkc 3 _ rfl)
        have e4 : wr.cell? ⟨b, o + j * 6 + 4, none⟩ = _ := (cell_keep hk _).trans (hkc 4 _ rfl)
        have e5 : wr.cell? ⟨b, o + j * 6 + 5, none⟩ = _ := (cell_keep hk _).trans (hkc 5 _ rfl)
        have hSbb := HS.out b hSb
        have zb : b < wr.heap.size := by omega
        have q0 : (0 : Int) ≤ (j : Int) := by omega
        have q1 : (j : Int) < (v.kids.length : Int) := by omega
        have hnj := HKN.out j hjl
        have hih := Lib.hid (IH.out v.kids[j] (v.bup up) [.int .i64 v.kids[j].tr.lab.kind, .int .i64 v.kids[j].tr.lab.id, .string v.kids[j].tr.lab.nm, .string s1, .slice A1 n1 c1, .slice B1 m1 d1] u1 wr.drew S (fun k => SU k ∨ (w.heap.size + 3 ≤ k ∧ k < wx.heap.size)) (by have := HN.out; omega) (by omega) (nmRep.keep hkr (fun k hk => HKS.out k hk) (fun _ h => h)) (HUPR.out.keep (fun _ _ => rfl) (fun _ h => h)) (fun k hk => by show k < wr.heap.size; have := HS.out k hk; omega) (by
          rintro k (hk | hk)
          · show k < wr.heap.size; have := HSU.out k hk; omega
          · show k < wr.heap.size; omega))
        clear hkr hkc hk hnj
        have HIH := Lib.hid hih
        clear hih
        have hxc : w.heap.size + 1 + 1 < wr.heap.size := by omega
        go_wp2_with fail
        go_region_law (first
            | (refine step_call (by rfl) 43 _ (by go_simp) (R := BackAt v.kids[j] (v.bup up) wr.drew S) HIH.out.out ?_; rintro e w2 ⟨ds, rfl, hu, hm2⟩; refine ⟨_, rfl, ?_⟩; obtain ⟨s2, A2, n2, c2, B2, m2, d2, rfl, _, _⟩ := Tm.shape hu; have z2 : wr.heap.size ≤ w2.heap.size := hm2.size; have k0 := (hm2.block _ hx0_l).trans HX0.out; have k1 := (hm2.block _ hx1_l).trans HX1.out; have k2 := (hm2.block _ hx2_l).trans HX2.out; have k2_5 := cv5 k2; have k2_f := free_heap k2 5; have d3 : w.heap.size + 1 + 1 < w2.heap.size := (by omega); have hkS2 : ∀ b, S b → w2.heap[b]? = wr.heap[b]? := (fun b hb => hm2.block b (by show b < wr.heap.size; have := HS.out b hb; omega)); have hown2 := HOWN.out.growEx (w' := w2) hkS2 (fun b h1 h2 => hm2.block b h2) z2; obtain ⟨xs, hownx, hallx⟩ := id hown2; rw [HLEN.out] at hownx; have HOWNX := Lib.hid hownx; have HALLX := Lib.hid hallx; have HU := Lib.hid hu; have HM2 := Lib.hid hm2; have K0 := Lib.hid k0; have K1 := Lib.hid k1; have K2 := Lib.hid k2; clear hu hm2 k0 k1 k2 hkS2 hown2 hownx hallx)
            | (refine step_append_lies _ (by rfl) (.tmp 56) (.tmp 64) _ (by rfl) wx.heap.size 27 k0 _ 6 96 Tryd.underlying25 hk0 kz0 kz1 kz2 rfl (by omega) (.slice Aq j cq) j xs (by rfl) (HOWNX.out.alloc _) ⟨w2.heap.size, 0, none⟩ 1 1 [.int .i64 (v.kids[j].tv (v.bup up)).tm.lab.kind, .string (v.kids[j].tv (v.bup up)).tm.lab.nm, .int .i64 (v.kids[j].tv (v.bup up)).tm.lab.ix, .string s2, .slice A2 n2 c2, .slice B2 m2 d2] (by rfl) (by rfl) (World.news_of_block (cs := #[.int .i64 (v.kids[j].tv (v.bup up)).tm.lab.kind, .string (v.kids[j].tv (v.bup up)).tm.lab.nm, .int .i64 (v.kids[j].tv (v.bup up)).tm.lab.ix, .string s2, .slice A2 n2 c2, .slice B2 m2 d2]) (t := 27) (fr := (0, 0)) (heap_alloc_new w2 _)) (by simp [Value.oneCell']) (by omega) (by unfold maxLen; omega) (by omega) (by simp; omega) (w2.heap.size + 1) (by simp) ?_; intro gg cap w3 hown3 hgrow hat hlt; have kk : ∀ b, b < w2.heap.size → (Value.slice Aq j cq).ownBlock ≠ some b → w3.heap[b]? = w2.heap[b]? := (fun b hb hne => (hgrow.block b (by simp; omega) (fun e => hne e.symm)).trans (heap_old hb rfl)); have h3 := (kk (w.heap.size + 1 + 1) d3 (fun e => by have := (HBLK.out _ e).1; omega)).trans K2.out; have h4 := (kk (w.heap.size + 1) (by omega) (fun e => by have := (HBLK.out _ e).1; omega)).trans K1.out; have h5 := (kk w.heap.size (by omega) (fun e => by have := (HBLK.out _ e).1; omega)).trans K0.out; have h3_5 := cv5 h3; have h3_f := free_heap h3 5; have H3 := Lib.hid h3; have H4 := Lib.hid h4; have H5 := Lib.hid h5; clear h3 h4 h5; have z3 : w2.heap.size + 1 ≤ w3.heap.size := (by have := hgrow.size; simpa using this); have HOWN3 := Lib.hid hown3; have HGROW := Lib.hid hgrow; have HAT := Lib.hid hat; have HKK := Lib.hid kk; clear hown3 hgrow hat kk)
            | fail)
        all_goals
          go_wp2_with fail
          go_roundg (v.kids.length - (j + 1))
          case measure => omega
          case rel =>
            have hstep := Rep.stepEx (E := 27) (S := S) (base := wx.heap.size) (a := (v.kids[j].tv (v.bup up)).tm) HLEN.out (fun b hb => by have := HS.out b hb; omega) (by omega) HALLX.out HU.out (fun b hb => by
              rcases hb with hb | ⟨hb, hb'⟩
              · exact ⟨Or.inl hb, fun e => by have := (HBLK.out b e).1; have := HS.out b hb; omega⟩
              · have h' : wr.heap.size ≤ b := hb
                exact ⟨Or.inr ⟨by omega, hb'⟩, fun e => by have := (HBLK.out b e).2; omega⟩) HOWN3.out HGROW.out HAT.out
            have hm3 : Below w.heap.size w w3 := ((HMR.out.drew.trans (HM2.out.mono (by show w.heap.size ≤ wr.heap.size; omega))).alloc (by omega) _).grown HGROW.out (by simp; omega) (fun k hk => by have := (HBLK.out k hk).1; omega)
            have hkg : ∀ k, k ≠ w.heap.size + 1 + 1 → (w3.setCell ⟨w.heap.size + 1 + 1, 5, none⟩ (.slice (some ⟨gg, 0, none⟩) (j + 1) cap)).heap[k]? = w3.heap[k]? := fun k hk => heap_far _ hk rfl
            refine ⟨j + 1, .slice (some ⟨gg, 0, none⟩) (j + 1) cap, by omega, by go_num, ⟨(hkg _ (by omega)).trans H5.out, (hkg _ (by omega)).trans H4.out, heap_set H3.out 5 _⟩, ?_, ?_, hm3.setCell (by simp <;> omega) _, by rw [size_set]; omega⟩
            · rw [List.take_succ_eq_append_getElem hjl, List.map_append]
              exact hstep.growEx (fun b hb => hkg b (by have := HS.out b hb; omega)) (fun b hb _ => hkg b (by omega)) (by rw [size_set]; omega)
            · exact HUPR.out.keep (fun b hb => by
                have h1 : b < wr.heap.size ∧ b ≠ w.heap.size + 1 + 1 ∧ (Value.slice Aq j cq).ownBlock ≠ some b := by
                  rcases hb with hb | hb
                  · have := HSU.out b hb
                    exact ⟨by omega, by omega, fun e => by have := (HBLK.out b e).1; omega⟩
                  · exact ⟨by omega, by omega, fun e => by have := (HBLK.out b e).1; omega⟩
                exact (hkg b h1.2.1).trans ((HKK.out b (by omega) h1.2.2).trans (HM2.out.block b h1.1))) (fun _ h => h)
      · go_wp2_with fail
        have hjk : j = v.kids.length := by omega
        refine bodyPost_ret (v := .agg #[.int .i64 kd, .string nx, .int .i64 0, .string sa, .slice Aa na ca, .slice Aq j cq]) (by simp [results, Tryd.results43, go_sem, hx1_0, hx1_1, hx1_2, hx1_3, hx1_4, hx1_5, hx1_l]) rfl ?_
        have hown := HOWN.out
        rw [hjk, List.take_length] at hown
        refine ⟨[.int .i64 kd, .string nx, .int .i64 0, .string sa, .slice Aa na ca, .slice Aq j cq], rfl, ?_, (((((HMR.out.setCell (by simp) _).setCell (by simp) _).setCell (by simp) _).setCell (by simp) _).setCell (by simp) _).setCell (by simp) _⟩
        refine Tm.shut (a := ⟨kd, nx, 0, ty⟩) HNM.out ?_ ?_
        · exact Ty.In_keep (fun b hb => far6 (by have := HS.out b hb; omega) (HKS.out b hb)) (fun b hb => Or.inl hb) _ _ _ HTY.out
        · rw [hjk]
          exact (Rep.Own.sl (S' := New S wx.heap.size wr) hown (by rw [List.length_map]; unfold maxLen; omega) (fun b hb => hb) (fun b h1 h2 => Or.inr ⟨h1, h2⟩)).keep (fun b hb => far6 (by rcases hb with hb | hb; have := HS.out b hb; omega; omega) rfl) (fun b hb => hb.imp_right (fun h => ⟨by omega, lt6 h.2⟩))


structure FJ (wx : World) (X Y n1 n2 : Nat) (uo un : Value) (l1 l2 : List Value) (id nw : Int) (f : Nat → Bool) (x49 x50 x51 x52 x53 x54 x55 x56 x57 x58 x59 x60 x61 x62 x1 x2 : Value) (W : World) : Prop where
  two : Two wx W (fun B u => Ch B u wx.heap.size n1 l1 (.int .i64 id) (f 0) (f 2) (f 5) (f 6) x49 x51 x54 x55) (fun B u => Ch B u wx.heap.size n2 l2 (.int .i64 nw) (f 7) (f 9) (f 12) (f 13) x56 x58 x61 x62)
  h50 : f 1 = true → x50 = uo
  h52 : f 3 = true → x52 = .pointer (some ⟨X, 1, none⟩)
  h53 : f 4 = true → x53 = .int .i64 id
  h57 : f 8 = true → x57 = un
  h59 : f 10 = true → x59 = .pointer (some ⟨Y, 1, none⟩)
  h60 : f 11 = true → x60 = .int .i64 nw
  h1 : f 14 = false → x1 = uo
  h2 : f 15 = false → x2 = un
  g1 : f 14 = true → x1 = x55
  g2 : f 15 = true → x2 = x62
  o1 : f 14 = true → f 6 = true
  o2 : f 15 = true → f 13 = true
  o3 : f 2 = true → f 1 = true
  o4 : f 9 = true → f 8 = true

theorem fft {b : Bool} {p : Prop} (h : b = false) (h' : b = true) : p := by rw [h] at h'; cases h'
theorem Ch.start0 {w : World} {base n : Nat} {xs : List Value} {x : Value} {fb fa fx fd : Bool} {vb va vx vd : Value} (h0 : fb = false) (h1 : fa = false) (h2 : fx = false) (h3 : fd = false) : Ch (fun _ => False) w base n xs x fb fa fx fd vb va vx vd := by
  subst h0 h1 h2 h3; exact Ch.start
section
variable {wx : World} {X Y n1 n2 : Nat} {uo un : Value} {l1 l2 : List Value} {id nw : Int} {f : Nat → Bool} {x49 x50 x51 x52 x53 x54 x55 x56 x57 x58 x59 x60 x61 x62 x1 x2 : Value} {W : World}
theorem FJ.start (hf : ∀ k, k < 16 → f k = false) (hb : Below wx.heap.size wx W) (e1 : x1 = uo) (e2 : x2 = un) : FJ wx X Y n1 n2 uo un l1 l2 id nw f x49 x50 x51 x52 x53 x54 x55 x56 x57 x58 x59 x60 x61 x62 x1 x2 W where
  two := ⟨fun _ => False, fun _ => False, fun _ h => h.elim, fun _ h => h.elim, fun _ h => h.elim, Ch.start0 (hf 0 (by decide)) (hf 2 (by decide)) (hf 5 (by decide)) (hf 6 (by decide)), Ch.start0 (hf 7 (by decide)) (hf 9 (by decide)) (hf 12 (by decide)) (hf 13 (by decide)), hb⟩
  h50 h := fft (hf 1 (by decide)) h
  h52 h := fft (hf 3 (by decide)) h
  h53 h := fft (hf 4 (by decide)) h
  h57 h := fft (hf 8 (by decide)) h
  h59 h := fft (hf 10 (by decide)) h
  h60 h := fft (hf 11 (by decide)) h
  h1 _ := e1
  h2 _ := e2
  g1 h := fft (hf 14 (by decide)) h
  g2 h := fft (hf 15 (by decide)) h
  o1 h := fft (hf 14 (by decide)) h
  o2 h := fft (hf 15 (by decide)) h
  o3 h := fft (hf 2 (by decide)) h
  o4 h := fft (hf 9 (by decide)) h
theorem FJ.ch1 (h : FJ wx X Y n1 n2 uo un l1 l2 id nw f x49 x50 x51 x52 x53 x54 x55 x56 x57 x58 x59 x60 x61 x62 x1 x2 W) (h6 : f 6 = true) : f 2 = true := by
  obtain ⟨_, _, _, _, _, c, _, _⟩ := h.two
  exact (c.ho h6).1
theorem FJ.ch2 (h : FJ wx X Y n1 n2 uo un l1 l2 id nw f x49 x50 x51 x52 x53 x54 x55 x56 x57 x58 x59 x60 x61 x62 x1 x2 W) (h6 : f 13 = true) : f 9 = true := by
  obtain ⟨_, _, _, _, _, _, c, _⟩ := h.two
  exact (c.ho h6).1
theorem FJ.no14 (h : FJ wx X Y n1 n2 uo un l1 l2 id nw f x49 x50 x51 x52 x53 x54 x55 x56 x57 x58 x59 x60 x61 x62 x1 x2 W) (h6 : f 6 = false) : f 14 = false := by
  cases e : f 14 with
  | false => rfl
  | true => exact fft h6 (h.o1 e)
theorem FJ.no15 (h : FJ wx X Y n1 n2 uo un l1 l2 id nw f x49 x50 x51 x52 x53 x54 x55 x56 x57 x58 x59 x60 x61 x62 x1 x2 W) (h6 : f 13 = false) : f 15 = false := by
  cases e : f 15 with
  | false => rfl
  | true => exact fft h6 (h.o2 e)
theorem FJ.no6 (h : FJ wx X Y n1 n2 uo un l1 l2 id nw f x49 x50 x51 x52 x53 x54 x55 x56 x57 x58 x59 x60 x61 x62 x1 x2 W) (h6 : f 1 = false) : f 6 = false := by
  cases e : f 6 with
  | false => rfl
  | true => exact fft h6 (h.o3 (h.ch1 e))
theorem FJ.no13 (h : FJ wx X Y n1 n2 uo un l1 l2 id nw f x49 x50 x51 x52 x53 x54 x55 x56 x57 x58 x59 x60 x61 x62 x1 x2 W) (h6 : f 8 = false) : f 13 = false := by
  cases e : f 13 with
  | false => rfl
  | true => exact fft h6 (h.o4 (h.ch2 e))
theorem FJ.below (h : FJ wx X Y n1 n2 uo un l1 l2 id nw f x49 x50 x51 x52 x53 x54 x55 x56 x57 x58 x59 x60 x61 x62 x1 x2 W) : Below wx.heap.size wx W := h.two.below
theorem FJ.st0 (h : FJ wx X Y n1 n2 uo un l1 l2 id nw f x49 x50 x51 x52 x53 x54 x55 x56 x57 x58 x59 x60 x61 x62 x1 x2 W) : FJ wx X Y n1 n2 uo un l1 l2 id nw (upd f 0) (.slice (some ⟨W.heap.size, 0, none⟩) 0 0) x50 x51 x52 x53 x54 x55 x56 x57 x58 x59 x60 x61 x62 x1 x2 (W.alloc (.cells #[] 3)) := { h with two := Two.made Ch.keeps h.two }
theorem FJ.st7 (h : FJ wx X Y n1 n2 uo un l1 l2 id nw f x49 x50 x51 x52 x53 x54 x55 x56 x57 x58 x59 x60 x61 x62 x1 x2 W) : FJ wx X Y n1 n2 uo un l1 l2 id nw (upd f 7) x49 x50 x51 x52 x53 x54 x55 (.slice (some ⟨W.heap.size, 0, none⟩) 0 0) x57 x58 x59 x60 x61 x62 x1 x2 (W.alloc (.cells #[] 3)) := { h with two := (Two.made Ch.keeps h.two.swap).swap }
theorem FJ.st5 (h : FJ wx X Y n1 n2 uo un l1 l2 id nw f x49 x50 x51 x52 x53 x54 x55 x56 x57 x58 x59 x60 x61 x62 x1 x2 W) : FJ wx X Y n1 n2 uo un l1 l2 id nw (upd f 5) x49 x50 x51 x52 x53 (.slice (some ⟨W.heap.size, 0, none⟩) 1 1) x55 x56 x57 x58 x59 x60 x61 x62 x1 x2 (W.alloc (.cells #[.int .i64 id] 3)) := { h with two := Two.laid Ch.keeps h.two }
theorem FJ.st12 (h : FJ wx X Y n1 n2 uo un l1 l2 id nw f x49 x50 x51 x52 x53 x54 x55 x56 x57 x58 x59 x60 x61 x62 x1 x2 W) : FJ wx X Y n1 n2 uo un l1 l2 id nw (upd f 12) x49 x50 x51 x52 x53 x54 x55 x56 x57 x58 x59 x60 (.slice (some ⟨W.heap.size, 0, none⟩) 1 1) x62 x1 x2 (W.alloc (.cells #[.int .i64 nw] 3)) := { h with two := (Two.laid Ch.keeps h.two.swap).swap }
theorem FJ.st1 (h : FJ wx X Y n1 n2 uo un l1 l2 id nw f x49 x50 x51 x52 x53 x54 x55 x56 x57 x58 x59 x60 x61 x62 x1 x2 W) (hn : f 1 = false) : x1 = uo ∧ FJ wx X Y n1 n2 uo un l1 l2 id nw (upd f 1) x49 uo x51 x52 x53 x54 x55 x56 x57 x58 x59 x60 x61 x62 x1 x2 W :=
  ⟨h.h1 (h.no14 (h.no6 hn)), { h with h50 := fun _ => rfl, o3 := fun _ => rfl }⟩
theorem FJ.st8 (h : FJ wx X Y n1 n2 uo un l1 l2 id nw f x49 x50 x51 x52 x53 x54 x55 x56 x57 x58 x59 x60 x61 x62 x1 x2 W) (hn : f 8 = false) : x2 = un ∧ FJ wx X Y n1 n2 uo un l1 l2 id nw (upd f 8) x49 x50 x51 x52 x53 x54 x55 x56 un x58 x59 x60 x61 x62 x1 x2 W :=
  ⟨h.h2 (h.no15 (h.no13 hn)), { h with h57 := fun _ => rfl, o4 := fun _ => rfl }⟩
theorem FJ.st3 (h : FJ wx X Y n1 n2 uo un l1 l2 id nw f x49 x50 x51 x52 x53 x54 x55 x56 x57 x58 x59 x60 x61 x62 x1 x2 W) : FJ wx X Y n1 n2 uo un l1 l2 id nw (upd f 3) x49 x50 x51 (.pointer (some ⟨X, 1, none⟩)) x53 x54 x55 x56 x57 x58 x59 x60 x61 x62 x1 x2 W := { h with h52 := fun _ => rfl }
theorem FJ.st4 (h : FJ wx X Y n1 n2 uo un l1 l2 id nw f x49 x50 x51 x52 x53 x54 x55 x56 x57 x58 x59 x60 x61 x62 x1 x2 W) : FJ wx X Y n1 n2 uo un l1 l2 id nw (upd f 4) x49 x50 x51 x52 (.int .i64 id) x54 x55 x56 x57 x58 x59 x60 x61 x62 x1 x2 W := { h with h53 := fun _ => rfl }
theorem FJ.st10 (h : FJ wx X Y n1 n2 uo un l1 l2 id nw f x49 x50 x51 x52 x53 x54 x55 x56 x57 x58 x59 x60 x61 x62 x1 x2 W) : FJ wx X Y n1 n2 uo un l1 l2 id nw (upd f 10) x49 x50 x51 x52 x53 x54 x55 x56 x57 x58 (.pointer (some ⟨Y, 1, none⟩)) x60 x61 x62 x1 x2 W := { h with h59 := fun _ => rfl }
theorem FJ.st11 (h : FJ wx X Y n1 n2 uo un l1 l2 id nw f x49 x50 x51 x52 x53 x54 x55 x56 x57 x58 x59 x60 x61 x62 x1 x2 W) : FJ wx X Y n1 n2 uo un l1 l2 id nw (upd f 11) x49 x50 x51 x52 x53 x54 x55 x56 x57 x58 x59 (.int .i64 nw) x61 x62 x1 x2 W := { h with h60 := fun _ => rfl }
theorem FJ.st14 (h : FJ wx X Y n1 n2 uo un l1 l2 id nw f x49 x50 x51 x52 x53 x54 x55 x56 x57 x58 x59 x60 x61 x62 x1 x2 W) (h6 : f 6 = true) : FJ wx X Y n1 n2 uo un l1 l2 id nw (upd f 14) x49 x50 x51 x52 x53 x54 x55 x56 x57 x58 x59 x60 x61 x62 x55 x2 W := { h with h1 := fun e => (by cases e), g1 := fun _ => rfl, o1 := fun _ => h6 }
theorem FJ.st15 (h : FJ wx X Y n1 n2 uo un l1 l2 id nw f x49 x50 x51 x52 x53 x54 x55 x56 x57 x58 x59 x60 x61 x62 x1 x2 W) (h6 : f 13 = true) : FJ wx X Y n1 n2 uo un l1 l2 id nw (upd f 15) x49 x50 x51 x52 x53 x54 x55 x56 x57 x58 x59 x60 x61 x62 x1 x62 W := { h with h2 := fun e => (by cases e), g2 := fun _ => rfl, o2 := fun _ => h6 }
theorem FJ.st2 (h : FJ wx X Y n1 n2 uo un l1 l2 id nw f x49 x50 x51 x52 x53 x54 x55 x56 x57 x58 x59 x60 x61 x62 x1 x2 W) (h0 : f 0 = true) (h1 : f 1 = true) (h2 : f 2 = false) :
    ∃ g, x49 = .slice (some ⟨g, 0, none⟩) 0 0 ∧ x50 = uo ∧ W.ownsRow wx.heap.size 3 1 (.slice (some ⟨g, 0, none⟩) 0 0) 0 [] ∧ ∀ A c W', W'.ownsRow wx.heap.size 3 1 (.slice A n1 c) n1 ([] ++ l1) → W.grownBy W' (Value.slice (some ⟨g, 0, none⟩) 0 0).ownBlock →
      ((Value.slice A n1 c).ownBlock = (Value.slice (some ⟨g, 0, none⟩) 0 0).ownBlock ∨ (Value.slice A n1 c).ownBlock = some W.heap.size) → FJ wx X Y n1 n2 uo un l1 l2 id nw (upd f 2) x49 x50 (.slice A n1 c) x52 x53 x54 x55 x56 x57 x58 x59 x60 x61 x62 x1 x2 W' := by
  have t := h.two
  rw [h0, h2] at t
  obtain ⟨g, e, ho, hk⟩ := Two.copied Ch.keeps t
  refine ⟨g, e, h.h50 h1, ho, fun A c W' a b d => { h with two := ?_, o3 := fun _ => h1 }⟩
  have := hk A c W' a b d
  have t' : Two wx W' (fun B u => Ch B u wx.heap.size n1 l1 (.int .i64 id) (f 0) true (f 5) (f 6) x49 (.slice A n1 c) x54 x55) (fun B u => Ch B u wx.heap.size n2 l2 (.int .i64 nw) (f 7) (f 9) (f 12) (f 13) x56 x58 x61 x62) := by rw [h0]; exact this
  exact t'
theorem FJ.st9 (h : FJ wx X Y n1 n2 uo un l1 l2 id nw f x49 x50 x51 x52 x53 x54 x55 x56 x57 x58 x59 x60 x61 x62 x1 x2 W) (h0 : f 7 = true) (h1 : f 8 = true) (h2 : f 9 = false) :
    ∃ g, x56 = .slice (some ⟨g, 0, none⟩) 0 0 ∧ x57 = un ∧ W.ownsRow wx.heap.size 3 1 (.slice (some ⟨g, 0, none⟩) 0 0) 0 [] ∧ ∀ A c W', W'.ownsRow wx.heap.size 3 1 (.slice A n2 c) n2 ([] ++ l2) → W.grownBy W' (Value.slice (some ⟨g, 0, none⟩) 0 0).ownBlock →
      ((Value.slice A n2 c).ownBlock = (Value.slice (some ⟨g, 0, none⟩) 0 0).ownBlock ∨ (Value.slice A n2 c).ownBlock = some W.heap.size) → FJ wx X Y n1 n2 uo un l1 l2 id nw (upd f 9) x49 x50 x51 x52 x53 x54 x55 x56 x57 (.slice A n2 c) x59 x60 x61 x62 x1 x2 W' := by
  have t := h.two.swap
  rw [h0, h2] at t
  obtain ⟨g, e, ho, hk⟩ := Two.copied Ch.keeps t
  refine ⟨g, e, h.h57 h1, ho, fun A c W' a b d => { h with two := ?_, o4 := fun _ => h1 }⟩
  have := (hk A c W' a b d).swap
  have t' : Two wx W' (fun B u => Ch B u wx.heap.size n1 l1 (.int .i64 id) (f 0) (f 2) (f 5) (f 6) x49 x51 x54 x55) (fun B u => Ch B u wx.heap.size n2 l2 (.int .i64 nw) (f 7) true (f 12) (f 13) x56 (.slice A n2 c) x61 x62) := by rw [h0]; exact this
  exact t'
theorem FJ.st6 (h : FJ wx X Y n1 n2 uo un l1 l2 id nw f x49 x50 x51 x52 x53 x54 x55 x56 x57 x58 x59 x60 x61 x62 x1 x2 W) (h0 : f 2 = true) (h1 : f 5 = true) (h2 : f 6 = false) :
    ∃ A c g, x51 = .slice A n1 c ∧ W.ownsRow wx.heap.size 3 1 (.slice A n1 c) n1 ([] ++ l1) ∧ x54 = .slice (some ⟨g, 0, none⟩) 1 1 ∧ W.heap[g]? = some (.cells #[.int .i64 id] 3 (0, 0)) ∧ ∀ A' c' W', W'.ownsRow wx.heap.size 3 1 (.slice A' (n1 + 1) c') (n1 + 1) (([] ++ l1) ++ [.int .i64 id]) → W.grownBy W' (Value.slice A n1 c).ownBlock →
      ((Value.slice A' (n1 + 1) c').ownBlock = (Value.slice A n1 c).ownBlock ∨ (Value.slice A' (n1 + 1) c').ownBlock = some W.heap.size) → FJ wx X Y n1 n2 uo un l1 l2 id nw (upd f 6) x49 x50 x51 x52 x53 x54 (.slice A' (n1 + 1) c') x56 x57 x58 x59 x60 x61 x62 x1 x2 W' := by
  have t := h.two
  rw [h0, h1, h2] at t
  obtain ⟨A, c, g, e, ho, e2, hh, hk⟩ := Two.done Ch.keeps t
  have h14 := h.no14 h2
  refine ⟨A, c, g, e, ho, e2, hh, fun A' c' W' a b d => { h with two := ?_, g1 := fun e => fft h14 e, o1 := fun _ => rfl }⟩
  have := hk A' c' W' a b d
  have t' : Two wx W' (fun B u => Ch B u wx.heap.size n1 l1 (.int .i64 id) (f 0) (f 2) (f 5) true x49 x51 x54 (.slice A' (n1 + 1) c')) (fun B u => Ch B u wx.heap.size n2 l2 (.int .i64 nw) (f 7) (f 9) (f 12) (f 13) x56 x58 x61 x62) := by rw [h0, h1]; exact this
  exact t'
theorem FJ.st13 (h : FJ wx X Y n1 n2 uo un l1 l2 id nw f x49 x50 x51 x52 x53 x54 x55 x56 x57 x58 x59 x60 x61 x62 x1 x2 W) (h0 : f 9 = true) (h1 : f 12 = true) (h2 : f 13 = false) :
    ∃ A c g, x58 = .slice A n2 c ∧ W.ownsRow wx.heap.size 3 1 (.slice A n2 c) n2 ([] ++ l2) ∧ x61 = .slice (some ⟨g, 0, none⟩) 1 1 ∧ W.heap[g]? = some (.cells #[.int .i64 nw] 3 (0, 0)) ∧ ∀ A' c' W', W'.ownsRow wx.heap.size 3 1 (.slice A' (n2 + 1) c') (n2 + 1) (([] ++ l2) ++ [.int .i64 nw]) → W.grownBy W' (Value.slice A n2 c).ownBlock →
      ((Value.slice A' (n2 + 1) c').ownBlock = (Value.slice A n2 c).ownBlock ∨ (Value.slice A' (n2 + 1) c').ownBlock = some W.heap.size) → FJ wx X Y n1 n2 uo un l1 l2 id nw (upd f 13) x49 x50 x51 x52 x53 x54 x55 x56 x57 x58 x59 x60 x61 (.slice A' (n2 + 1) c') x1 x2 W' := by
  have t := h.two.swap
  rw [h0, h1, h2] at t
  obtain ⟨A, c, g, e, ho, e2, hh, hk⟩ := Two.done Ch.keeps t
  have h14 := h.no15 h2
  refine ⟨A, c, g, e, ho, e2, hh, fun A' c' W' a b d => { h with two := ?_, g2 := fun e => fft h14 e, o2 := fun _ => rfl }⟩
  have := (hk A' c' W' a b d).swap
  have t' : Two wx W' (fun B u => Ch B u wx.heap.size n1 l1 (.int .i64 id) (f 0) (f 2) (f 5) (f 6) x49 x51 x54 x55) (fun B u => Ch B u wx.heap.size n2 l2 (.int .i64 nw) (f 7) (f 9) (f 12) true x56 x58 x61 (.slice A' (n2 + 1) c')) := by rw [h0, h1]; exact this
  exact t'
/-- What the region leaves. -/
theorem FJ.fin (h : FJ wx X Y n1 n2 uo un l1 l2 id nw f x49 x50 x51 x52 x53 x54 x55 x56 x57 x58 x59 x60 x61 x62 x1 x2 W) (hf : ∀ k, k < 16 → f k = true) : ∃ A c A' c', x1 = .slice A (n1 + 1) c ∧ x2 = .slice A' (n2 + 1) c' ∧ W.ownsRow wx.heap.size 3 1 (.slice A (n1 + 1) c) (n1 + 1) (([] ++ l1) ++ [.int .i64 id]) ∧
    W.ownsRow wx.heap.size 3 1 (.slice A' (n2 + 1) c') (n2 + 1) (([] ++ l2) ++ [.int .i64 nw]) ∧ Below wx.heap.size wx W := by
  obtain ⟨_, _, _, _, _, c1, c2, hb⟩ := h.two
  obtain ⟨A, c, e1, o1, _⟩ := c1.hd (hf 6 (by decide))
  obtain ⟨A', c', e2, o2, _⟩ := c2.hd (hf 13 (by decide))
  exact ⟨A, c, A', c', (h.g1 (hf 14 (by decide))).trans e1, (h.g2 (hf 15 (by decide))).trans e2, o1, o2, hb⟩
end
/-- .. the slots left open. -/
def FJx (wx : World) (X Y n1 n2 : Nat) (uo un : Value) (l1 l2 : List Value) (id nw : Int) (f : Nat → Bool) (ys : List Value) (W : World) : Prop :=
  ∃ x49 x50 x51 x52 x53 x54 x55 x56 x57 x58 x59 x60 x61 x62 x1 x2 : Value, ys = [x49, x50, x51, x52, x53, x54, x55, x56, x57, x58, x59, x60, x61, x62, x1, x2] ∧ FJ wx X Y n1 n2 uo un l1 l2 id nw f x49 x50 x51 x52 x53 x54 x55 x56 x57 x58 x59 x60 x61 x62 x1 x2 W
theorem FJ.mk_ {wx : World} {X Y n1 n2 : Nat} {uo un : Value} {l1 l2 : List Value} {id nw : Int} {f : Nat → Bool} {x49 x50 x51 x52 x53 x54 x55 x56 x57 x58 x59 x60 x61 x62 x1 x2 : Value} {W : World} (h : FJ wx X Y n1 n2 uo un l1 l2 id nw f x49 x50 x51 x52 x53 x54 x55 x56 x57 x58 x59 x60 x61 x62 x1 x2 W) : FJx wx X Y n1 n2 uo un l1 l2 id nw f [x49, x50, x51, x52, x53, x54, x55, x56, x57, x58, x59, x60, x61, x62, x1, x2] W := ⟨_, _, _, _, _, _, _, _, _, _, _, _, _, _, _, _, rfl, h⟩
theorem len16 {xs : List Value} (h : xs.length = 16) : ∃ x49 x50 x51 x52 x53 x54 x55 x56 x57 x58 x59 x60 x61 x62 x1 x2 : Value, xs = [x49, x50, x51, x52, x53, x54, x55, x56, x57, x58, x59, x60, x61, x62, x1, x2] := by
  match xs, h with
  | [x49, x50, x51, x52, x53, x54, x55, x56, x57, x58, x59, x60, x61, x62, x1, x2], _ => exact ⟨x49, x50, x51, x52, x53, x54, x55, x56, x57, x58, x59, x60, x61, x62, x1, x2, rfl⟩


theorem renam_hit : ∀ (e : List (Nat × Nat)) (x k : Nat), (∀ q, q < k → (olds e).getD q 0 ≠ x) → k < e.length → (olds e).getD k 0 = x → renam e x = (news e).getD k 0
  | p :: e, x, 0, _, _, h => by
    have : p.1 = x := by simpa [olds] using h
    simp [renam, this, news]
  | p :: e, x, k + 1, h, hk, h' => by
    have h0 : ¬ p.1 = x := by simpa [olds] using h 0 (by omega)
    have := renam_hit e x k (fun q hq => by simpa [olds] using h (q + 1) (by omega)) (by simpa using hk) (by simpa [olds] using h')
    simpa [renam, h0, news] using this
theorem renam_miss : ∀ (e : List (Nat × Nat)) (x : Nat), (∀ q, q < e.length → (olds e).getD q 0 ≠ x) → renam e x = x
  | [], _, _ => rfl
  | p :: e, x, h => by
    have h0 : ¬ p.1 = x := by simpa [olds] using h 0 (by simp)
    have := renam_miss e x (fun q hq => by simpa [olds] using h (q + 1) (by simpa using hq))
    simpa [renam, h0] using this
theorem Nm.fresh_le : ∀ (v : Nm) (e : List (Nat × Nat)) (n : Nat), (v.fresh e n).2 ≤ n + v.nodes ∧ n ≤ (v.fresh e n).2
  | .con _ _, _, n => ⟨by simp [Nm.fresh], Nat.le_refl _⟩
  | .var _, _, n => ⟨by simp [Nm.fresh], Nat.le_refl _⟩
  | .abs i s b, e, n => by
    have := Nm.fresh_le b ((i, n + 1) :: e) (n + 1)
    simp only [Nm.fresh, Nm.nodes]; omega
  | .app f x, e, n => by
    have h1 := Nm.fresh_le f e n
    have h2 := Nm.fresh_le x e (f.fresh e n).2
    simp only [Nm.fresh, Nm.nodes]; omega
theorem fresh_thr_le (e : List (Nat × Nat)) : ∀ (l : List Nm) (s : Nat), (thr (fun x k => x.fresh e k) l s).2 ≤ s + (l.map Nm.nodes).sum ∧ s ≤ (thr (fun x k => x.fresh e k) l s).2
  | [], s => ⟨by simp [thr], Nat.le_refl _⟩
  | a :: l, s => by
    have h1 := a.fresh_le e s
    have h2 := fresh_thr_le e l (a.fresh e s).2
    simp only [thr, List.map_cons, List.sum_cons]; omega
theorem Nm.env_len (v : Nm) (e : List (Nat × Nat)) (n : Nat) : (v.env e n).length ≤ e.length + 1 ∧ v.upn n ≤ n + 1 := by cases v <;> simp [Nm.env, Nm.upn]
theorem UpAt.at2 {w : World} {S : Nat → Prop} {A : Option Addr} {n c i : Nat} {up : List Nat} (h : UpAt w S (.slice A n c) up) (hn : up.length = n) (hi : i < n) :
    ∃ b o, A = some ⟨b, o, none⟩ ∧ S b ∧ w.cell? ⟨b, o + (n - 1 - i), none⟩ = some (.int .i64 (up.getD i 0 : Nat)) := by
  subst hn; exact h.at_ hi
theorem UpAt.shape2 {w : World} {S : Nat → Prop} {uv : Value} {up : List Nat} {n : Nat} (h : UpAt w S uv up) (hn : up.length = n) : ∃ A c, uv = .slice A n c := by
  subst hn; exact h.shape
/-- What fresh leaves. -/
def FreshAt (v : Nm) (e : List (Nat × Nat)) (n bn : Nat) (w : World) (S : Nat → Prop) (z : Ending) (w' : World) : Prop :=
  ∃ es : List Value, z = .returned (.agg es.toArray) ∧ nmRep.R w' (Ex S w w') (v.fresh e n).1.tr es ∧ w'.heap[bn]? = some (.cells #[.int .i64 ((v.fresh e n).2 : Nat)] 3 (0, 0)) ∧ Mods (· = bn) w.heap.size w w'

set_option maxRecDepth 100000 in
set_option maxHeartbeats 4000000 in
theorem fresh_var (i : Nat) (e : List (Nat × Nat)) (n : Nat) (cs : List Value) (uo un : Value) (w : World) (S SU : Nat → Prop) (bn : Nat) (hub : e.length ≤ 1000000) (h : nmRep.R w S (Nm.var i).tr cs) (hupo : UpAt w SU uo (olds e)) (hupn : UpAt w SU un (news e)) (hS : ∀ b, S b → b < w.heap.size ∧ b ≠ bn) (hSU : ∀ b, SU b → b < w.heap.size ∧ b ≠ bn)
    (hbn : w.heap[bn]? = some (.cells #[.int .i64 n] 3 (0, 0))) :
    Calls Tryd.prog 75 #[.agg cs.toArray, uo, un, .pointer (some ⟨bn, 0, none⟩)] w (FreshAt (.var i) e n bn w S) := by
  obtain ⟨u0, u1, vs, rfl, hnm, hty, hl⟩ := Nt.open_ (a := ⟨2, (i : Int), bNil, noTy⟩) (l := []) h
  obtain ⟨sa, Aa, na, ca, rfl, rfl⟩ := hty.shape
  obtain ⟨A, m, cp, rfl, hln, hm, _⟩ := hl
  simp only [List.length_nil] at hln
  subst hln
  obtain ⟨Ao, co, rfl⟩ := hupo.shape2 (n := e.length) (by simp [olds])
  obtain ⟨An, cn, rfl⟩ := hupn.shape2 (n := e.length) (by simp [news])
  have w1 : IntKind.i64.wrap ((e.length : Int) - 1) = (e.length : Int) - 1 := wrap_ok _ (by omega) (by omega)
  have hbl := lt_heap hbn
  clear h hm hnm
  have HS := Lib.hid hS
  have HTY := Lib.hid hty
  have HUPO := Lib.hid hupo
  have HUPN := Lib.hid hupn
  have HSU := Lib.hid hSU
  have HBN := Lib.hid hbn
  clear hS hty hupo hupn hSU hbn
  go_enter Tryd.func75, Tryd.ntmps75
  go_wp2_with fail
  go_loopg [10] e.length (fun k v10 wr => ∃ (j : Nat) (m : Int), j + k = e.length ∧ v10 = .int .i64 m ∧ m + 1 + j = e.length ∧ (∀ q, q < j → (olds e).getD q 0 ≠ i) ∧
    (wr.heap[w.heap.size]? = some (.cells #[.int .i64 2, .int .i64 (i : Int), .string bNil, .string sa, .slice Aa na ca, .slice A 0 cp] 65 (0, 0)) ∧ wr.heap[w.heap.size + 1]? = some (.cells #[.int .i64 0, .int .i64 0, .string ⟨#[]⟩, .string ⟨#[]⟩, .slice none 0 0, .slice none 0 0] 65 (0, 0)) ∧ wr.heap[w.heap.size + 1 + 1]? = some (.cells #[.int .i64 2, .int .i64 (i : Int), .string bNil, .string sa, .slice Aa na ca, .slice none 0 0] 65 (0, 0))) ∧ Below w.heap.size w wr ∧ w.heap.size + 3 ≤ wr.heap.size)
  case atStart => exact ⟨0, (e.length : Int) - 1, by omega, rfl, by omega, by simp, ⟨heap_old (by simp <;> omega) (heap_old (by simp) (heap_at rfl)), heap_old (by simp) (heap_at (by simp)), heap_at (by simp)⟩, by go_grown, by simp⟩
  case round =>
    obtain ⟨j, m, hj, rfl, hm, hpre, ⟨hx0, hx1, hx2⟩, hb, zr⟩ := hrel
    have w2 : IntKind.i64.wrap (m - 1) = m - 1 := wrap_ok _ (by omega) (by omega)
    have HB := Lib.hid hb
    have HPRE := Lib.hid hpre
    have HM := Lib.hid hm
    clear hb hpre hm
    have hx0_0 := cv0 hx0
    have hx0_1 := cv1 hx0
    have hx0_2 := cv2 hx0
    have hx0_3 := cv3 hx0
    have hx0_4 := cv4 hx0
    have hx0_5 := cv5 hx0
    have hx0_l := lt_heap hx0
    have HX0 := Lib.hid hx0
    clear hx0
    have hx1_0 := cv0 hx1
    have hx1_1 := cv1 hx1
    have hx1_2 := cv2 hx1
    have hx1_3 := cv3 hx1
    have hx1_4 := cv4 hx1
    have hx1_5 := cv5 hx1
    have hx1_f0 := free_heap hx1 0
    have hx1_f1 := free_heap hx1 1
    have hx1_f2 := free_heap hx1 2
    have hx1_f3 := free_heap hx1 3
    have hx1_f4 := free_heap hx1 4
    have hx1_f5 := free_heap hx1 5
    have hx1_l := lt_heap hx1
    have HX1 := Lib.hid hx1
    clear hx1
    have hx2_0 := cv0 hx2
    have hx2_1 := cv1 hx2
    have hx2_2 := cv2 hx2
    have hx2_3 := cv3 hx2
    have hx2_4 := cv4 hx2
    have hx2_5 := cv5 hx2
    have hx2_f0 := free_heap hx2 0
    have hx2_f1 := free_heap hx2 1
    have hx2_f2 := free_heap hx2 2
    have hx2_f3 := free_heap hx2 3
    have hx2_f4 := free_heap hx2 4
    have hx2_f5 := free_heap hx2 5
    have hx2_l := lt_heap hx2
    have HX2 := Lib.hid hx2
    clear hx2
    have HMM := HM.out
    by_cases hjl : j < e.length
    · obtain ⟨b, o, hA, hSb, hcell⟩ := HUPO.out.at2 (by simp [olds]) hjl
      subst hA
      obtain ⟨b2, o2, hA2, hSb2, hcell2⟩ := HUPN.out.at2 (by simp [news]) hjl
      subst hA2
      have hbs := (HSU.out b hSb).1
      have hbs2 := (HSU.out b2 hSb2).1
      have hcell := (cell_keep (HB.out.block b hbs) _).trans hcell
      have hcell2 := (cell_keep (HB.out.block b2 hbs2) _).trans hcell2
      have zb : b < wr.heap.size := by omega
      have zb2 : b2 < wr.heap.size := by omega
      have q1 : (0 : Int) ≤ m := by omega
      have q2 : m < (e.length : Int) := by omega
      have q3 : m.toNat = e.length - 1 - j := by omega
      clear HMM
      have hx := Lib.hid (show ∃ x : Nat, (olds e).getD j 0 = x from ⟨_, rfl⟩)
      obtain ⟨x, hx⟩ := hx.out
      have hy := Lib.hid (show ∃ x : Nat, (news e).getD j 0 = x from ⟨_, rfl⟩)
      obtain ⟨y, hy⟩ := hy.out
      rw [hx] at hcell
      rw [hy] at hcell2
      by_cases he : x = i
      · have hren : renam e i = y := (renam_hit e i j HPRE.out hjl (hx.trans he)).trans hy
        subst he
        have q4 : ((x : Int) == (x : Int)) = true := by simp
        have HREN := Lib.hid hren
        have HX := Lib.hid hx
        have HY := Lib.hid hy
        clear hren hx hy
        go_wp2_with fail
        go_region
        all_goals
          go_wp2_with fail
          refine bodyPost_ret (v := .agg #[.int .i64 2, .int .i64 (y : Int), .string bNil, .string sa, .slice Aa na ca, .slice none 0 0]) (by simp [results, Tryd.results75, go_sem, hx1_0, hx1_1, hx1_2, hx1_3, hx1_4, hx1_5, hx1_l]) rfl ?_
          unfold FreshAt
          simp only [Nm.fresh, HREN.out]
          refine ⟨[.int .i64 2, .int .i64 (y : Int), .string bNil, .string sa, .slice Aa na ca, .slice none 0 0], rfl, Nt.shut (a := ⟨2, (y : Int), bNil, noTy⟩) (l := []) (by show bNil.size ≤ maxLen; decide +kernel) (Ty.In_keep (fun b hb => ?_) (fun b hb => Or.inl hb) _ _ _ HTY.out) Rep.Sl.nil, ?_, ?_⟩
          · have := (HS.out b hb).1
            exact heap_drew (far6 (by omega) (heap_far _ (by omega) (HB.out.block b this)))
          · exact heap_drew (far6 (by omega) (heap_far _ (by omega) ((HB.out.block bn hbl).trans HBN.out)))
          · exact (Mods.below (below6 ((HB.out).setCell (by simp <;> omega) _) (by omega))).drew
      · have q4 : ((x : Int) == (i : Int)) = false := by rw [beq_eq_false_iff_ne]; omega
        clear hcell2
        have HX := Lib.hid hx
        have HY := Lib.hid hy
        clear hx hy
        go_wp2_with fail
        go_region
        all_goals
          go_wp2_with fail
          go_roundg (e.length - (j + 1))
          case measure => omega
          case rel =>
            have hmm := HM.out
            refine ⟨j + 1, m - 1, by omega, rfl, by omega, fun q hq => ?_, ⟨heap_drew HX0.out, heap_drew HX1.out, heap_drew HX2.out⟩, HB.out.drew, zr⟩
            rcases Nat.lt_or_ge q j with h | h
            · exact HPRE.out q h
            · obtain rfl : q = j := by omega
              rw [HX.out]; exact he
    · have hren : renam e i = i := renam_miss e i (fun q hq => HPRE.out q (by omega))
      obtain rfl : m = -1 := by omega
      clear HMM
      have HREN := Lib.hid hren
      clear hren
      go_wp2_with fail
      refine bodyPost_ret (v := .agg #[.int .i64 2, .int .i64 (i : Int), .string bNil, .string sa, .slice Aa na ca, .slice none 0 0]) (by simp [results, Tryd.results75, go_sem, hx1_0, hx1_1, hx1_2, hx1_3, hx1_4, hx1_5, hx1_l]) rfl ?_
      unfold FreshAt
      simp only [Nm.fresh, HREN.out]
      refine ⟨[.int .i64 2, .int .i64 (i : Int), .string bNil, .string sa, .slice Aa na ca, .slice none 0 0], rfl, Nt.shut (a := ⟨2, (i : Int), bNil, noTy⟩) (l := []) (by show bNil.size ≤ maxLen; decide +kernel) (Ty.In_keep (fun b hb => far6 (by have := HS.out b hb; omega) (HB.out.block b (HS.out b hb).1)) (fun b hb => Or.inl hb) _ _ _ HTY.out) Rep.Sl.nil, far6 (by omega) ((HB.out.block bn hbl).trans HBN.out), Mods.below (below6 HB.out (by omega))⟩


set_option maxRecDepth 100000 in
set_option maxHeartbeats 4000000 in
theorem fresh_any : ∀ (N : Nat) (v : Nm) (e : List (Nat × Nat)) (n : Nat) (cs : List Value) (uo un : Value) (w : World) (S SU : Nat → Prop) (bn : Nat), v.nodes ≤ N → n + v.nodes ≤ 1000000000000 → e.length + v.nodes ≤ 1000000 → nmRep.R w S v.tr cs → UpAt w SU uo (olds e) → UpAt w SU un (news e) → (∀ b, S b → b < w.heap.size ∧ b ≠ bn) → (∀ b, SU b → b < w.heap.size ∧ b ≠ bn) →
    w.heap[bn]? = some (.cells #[.int .i64 n] 3 (0, 0)) →
    Calls Tryd.prog 75 #[.agg cs.toArray, uo, un, .pointer (some ⟨bn, 0, none⟩)] w (FreshAt v e n bn w S) := by
  intro N
  induction N with
  | zero => intro v; have := v.nodes_pos; intros; omega
  | succ N ih =>
  intro v e n cs uo un w S SU bn hN hnb hub h hupo hupn hS hSU hbn
  have IH := Lib.hid ih
  clear ih
  have hnp := v.nodes_pos
  by_cases hv : ∃ i, v = .var i
  · obtain ⟨i, rfl⟩ := hv
    exact fresh_var i e n cs uo un w S SU bn (by omega) h hupo hupn hS hSU hbn
  have hbl := lt_heap hbn
  have hbl1 : bn < w.heap.size + 1 := by omega
  have hbl2 : bn < w.heap.size + 1 + 1 := by omega
  have hbl3 : bn < w.heap.size + 1 + 1 + 1 := by omega
  have wn : IntKind.i64.wrap ((n : Int) + 1) = (n : Int) + 1 := wrap_small _ (by omega) (by omega)
  have e0 := cv0 hbn
  have e0f := free_heap hbn 0
  obtain ⟨Ao, co, rfl⟩ := hupo.shape2 (n := e.length) (by simp [olds])
  obtain ⟨An, cn, rfl⟩ := hupn.shape2 (n := e.length) (by simp [news])
  have hnv : ∀ i, v ≠ .var i := fun i e => hv ⟨i, e⟩
  have hof := Nm.fresh_eq hnv e n
  unfold FreshAt
  rw [hof.1, hof.2]
  clear hof
  rw [Nm.tr_eq] at h
  obtain ⟨u0, u1, vs, rfl, hnm, hty, hl⟩ := Nt.open_ h
  obtain ⟨sa, Aa, na, ca, rfl, rfl⟩ := hty.shape
  have HL := Lib.hid hl
  have hkl := v.kids_len
  have hkn := v.kids_nodes
  have t2 : (v.lab.kind == 2) = false := by cases v <;> first | rfl | exact absurd rfl (hnv _)
  have hab : ((v.lab.kind == 3) = true ∧ ∃ i : Nat, v.lab.id = i ∧ olds (v.env e n) = i :: olds e ∧ news (v.env e n) = (n + 1) :: news e ∧ v.upn n = n + 1 ∧ v.nlab n = ⟨v.lab.kind, (n + 1 : Nat), v.lab.nm, v.lab.ty⟩) ∨ ((v.lab.kind == 3) = false ∧ olds (v.env e n) = olds e ∧ news (v.env e n) = news e ∧ v.upn n = n ∧ v.nlab n = ⟨v.lab.kind, v.lab.id, v.lab.nm, v.lab.ty⟩) := by
    cases v <;> first | exact absurd rfl (hnv _) | exact Or.inr ⟨rfl, rfl, rfl, rfl, rfl⟩ | exact Or.inl ⟨rfl, _, rfl, rfl, rfl, rfl, rfl⟩
  obtain ⟨A, m, c, rfl, hln, hm, _⟩ := hl
  rw [List.length_map] at hln
  subst hln
  have HNM := Lib.hid hnm
  generalize v.lab = lab at *
  obtain ⟨kd, idn, nx, ty⟩ := lab
  simp only at hty hab t2
  clear h hnm hm hv
  obtain ⟨i0, hi0, hz0, hz1, hz2⟩ := info_parts infoIntN
  obtain ⟨k0, hk0, kz0, kz1, kz2⟩ := info_parts infoNamed
  have HS := Lib.hid hS
  have HN := Lib.hid hN
  have HTY := Lib.hid hty
  have HBN := Lib.hid hbn
  have HUPO := Lib.hid hupo
  have HUPN := Lib.hid hupn
  have HSU := Lib.hid hSU
  have HKN := Lib.hid hkn
  clear hS hN hty hbn hupo hupn hSU hkn
  go_enter Tryd.func75, Tryd.ntmps75
  go_upto_if 39 with (fail)
  go_cut [1, 2] (fun s1 s2 wx => UpAt wx (fun k => SU k ∨ (w.heap.size + 3 ≤ k ∧ k < wx.heap.size)) s1 (olds (v.env e n)) ∧ UpAt wx (fun k => SU k ∨ (w.heap.size + 3 ≤ k ∧ k < wx.heap.size)) s2 (news (v.env e n)) ∧ Mods (· = bn) w.heap.size w wx ∧ w.heap.size + 3 ≤ wx.heap.size ∧ wx.heap[bn]? = some (.cells #[.int .i64 (v.upn n : Nat)] 3 (0, 0)) ∧
    wx.heap[w.heap.size]? = some (.cells #[.int .i64 kd, .int .i64 idn, .string nx, .string sa, .slice Aa na ca, .slice A v.kids.length c] 65 (0, 0)) ∧
    wx.heap[w.heap.size + 1]? = some (.cells #[.int .i64 0, .int .i64 0, .string ⟨#[]⟩, .string ⟨#[]⟩, .slice none 0 0, .slice none 0 0] 65 (0, 0)) ∧
    wx.heap[w.heap.size + 1 + 1]? = some (.cells #[.int .i64 kd, .int .i64 (v.nlab n).id, .string nx, .string sa, .slice Aa na ca, .slice none 0 0] 65 (0, 0)))
  case first =>
    rcases hab with ⟨t3, i, rfl, hoe, hne, hupn, hnl⟩ | ⟨t3, hoe, hne, hupn, hnl⟩
    · go_upto_region 13 with (fail)
      refine gen_last (fun wx => Mods (· = bn) w.heap.size w wx ∧ (wx.heap.size ≤ w.heap.size + 3 ∧ w.heap.size + 3 ≤ wx.heap.size) ∧ wx.heap[bn]? = some (.cells #[.int .i64 ((n : Int) + 1)] 3 (0, 0)) ∧
        wx.heap[w.heap.size]? = some (.cells #[.int .i64 kd, .int .i64 (i : Int), .string nx, .string sa, .slice Aa na ca, .slice A v.kids.length c] 65 (0, 0)) ∧
        wx.heap[w.heap.size + 1]? = some (.cells #[.int .i64 0, .int .i64 0, .string ⟨#[]⟩, .string ⟨#[]⟩, .slice none 0 0, .slice none 0 0] 65 (0, 0)) ∧
        wx.heap[w.heap.size + 1 + 1]? = some (.cells #[.int .i64 kd, .int .i64 ((n : Int) + 1), .string nx, .string sa, .slice Aa na ca, .slice none 0 0] 65 (0, 0))) ?_ ?_
      · refine ⟨?_, by simp [size_set],
          heap_old (by simp [size_set]; omega) (heap_old (by simp [size_set]; omega) (heap_old (by simp [size_set]; omega) (heap_set HBN.out 0 _))), heap_old (by simp [size_set] <;> omega) (heap_old (by simp [size_set]) (heap_at (by simp [size_set]))), heap_old (by simp [size_set]) (heap_at (by simp [size_set])), heap_at (by simp [size_set])⟩
        refine Mods.alloc (Mods.alloc (Mods.alloc (Mods.setP (P := (· = bn)) Mods.refl (rfl : bn = bn) _) ?_ _) ?_ _) ?_ _
        all_goals (simp [size_set] <;> omega)
      rintro wx ⟨hmo, zx, hbx, hx0, hx1', hx2⟩
      have hsx : ∀ b, SU b → b < wx.heap.size := fun b hb => by have := (HSU.out b hb).1; omega
      obtain ⟨l1, ha1, hn1, hl1, ho1⟩ := (HUPO.out.keep (w' := wx) (fun b hb => hmo.block b (HSU.out b hb).1 (HSU.out b hb).2) (fun _ h => h)).news
      obtain ⟨l2, ha2, hn2, hl2, ho2⟩ := (HUPN.out.keep (w' := wx) (fun b hb => hmo.block b (HSU.out b hb).1 (HSU.out b hb).2) (fun _ h => h)).news
      rw [show (olds e).length = e.length by simp [olds]] at hn1 hl1
      rw [show (news e).length = e.length by simp [news]] at hn2 hl2
      have HA1 := Lib.hid ha1
      have HN1 := Lib.hid hn1
      have HL1 := Lib.hid hl1
      have HO1 := Lib.hid ho1
      have HA2 := Lib.hid ha2
      have HN2 := Lib.hid hn2
      have HL2 := Lib.hid hl2
      have HO2 := Lib.hid ho2
      have HMO := Lib.hid hmo
      have HSX := Lib.hid hsx
      have HBX := Lib.hid hbx
      have HX0 := Lib.hid hx0
      have HX1P := Lib.hid hx1'
      have HX2 := Lib.hid hx2
      clear ha1 hn1 hl1 ho1 ha2 hn2 hl2 ho2 hmo hsx hbx hx0 hx1' hx2
      clear e0 e0f wn
      simp only [t3]
      refine wp_region_frame [49, 50, 51, 52, 53, 54, 55, 56, 57, 58, 59, 60, 61, 62, 1, 2] (FJx wx w.heap.size (w.heap.size + 1 + 1) e.length e.length (.slice Ao e.length co) (.slice An e.length cn) l1 l2 ((i : Int)) ((n : Int) + 1)) (by kernel_rfl) (by kernel_rfl) ?h0 ?hend ?hstep
      case h0 =>
        intro f xs hf hx he
        obtain ⟨x49, x50, x51, x52, x53, x54, x55, x56, x57, x58, x59, x60, x61, x62, x1, x2, rfl⟩ := len16 hx
        simp [withs, Act.put] at he
        exact (FJ.start hf (Below.refl _ wx).drew (by simp [he]) (by simp [he])).mk_
      case hend =>
        rintro f xs W hf ⟨x49, x50, x51, x52, x53, x54, x55, x56, x57, x58, x59, x60, x61, x62, x1, x2, rfl, hJ⟩
        obtain ⟨A', c', A'', c'', rfl, rfl, k1, k2, hb⟩ := hJ.fin hf
        have zW := hb.size
        have K1 := Lib.hid k1
        have K2 := Lib.hid k2
        have HB := Lib.hid hb
        clear hf hJ k1 k2 hb
        simp only [withs, Act.put, List.setIfInBounds_toArray, List.set_cons_succ, List.set_cons_zero]
        go_wp2_with fail
        go_meet
        rw [hoe, hne, hupn, hnl]
        have hk4 := HB.out.block
        have e1 : ((n + 1 : Nat) : Int) = (n : Int) + 1 := by omega
        refine ⟨UpAt.snoc (id := i) HA1.out (fun b hb => hk4 b (HSX.out b hb)) (fun b hb => Or.inl hb) K1.out (by simp [olds]) (by unfold maxLen; omega) (fun g h1 h2 => Or.inr ⟨by omega, h2⟩), UpAt.snoc (id := n + 1) HA2.out (fun b hb => hk4 b (HSX.out b hb)) (fun b hb => Or.inl hb) (by rw [e1]; exact K2.out) (by simp [news]) (by unfold maxLen; omega) (fun g h1 h2 => Or.inr ⟨by omega, h2⟩), HMO.out.thenBelow (HB.out.mono (by omega)), by omega, ?_, ?_, ?_, ?_⟩
        · rw [e1]; exact (hk4 bn (by omega)).trans HBX.out
        · exact (hk4 _ (by omega)).trans HX0.out
        · exact (hk4 _ (by omega)).trans HX1P.out
        · simp only [e1]; exact (hk4 _ (by omega)).trans HX2.out
      case hstep =>
        rintro io hi f xs W hn hp ⟨x49, x50, x51, x52, x53, x54, x55, x56, x57, x58, x59, x60, x61, x62, x1, x2, rfl, hJ⟩
        have hi : io < 16 := hi
        rcases (by omega : io = 0 ∨ io = 1 ∨ io = 2 ∨ io = 3 ∨ io = 4 ∨ io = 5 ∨ io = 6 ∨ io = 7 ∨ io = 8 ∨ io = 9 ∨ io = 10 ∨ io = 11 ∨ io = 12 ∨ io = 13 ∨ io = 14 ∨ io = 15) with rfl | rfl | rfl | rfl | rfl | rfl | rfl | rfl | rfl | rfl | rfl | rfl | rfl | rfl | rfl | rfl
        · refine wpOp_run rfl (by rfl) (fun K hK => ?_)
          simp only [withs, Act.put, List.setIfInBounds_toArray, List.set_cons_succ, List.set_cons_zero]
          go_simp
          exact hK _ _ ⟨[.slice (some ⟨W.heap.size, 0, none⟩) 0 0, x50, x51, x52, x53, x54, x55, x56, x57, x58, x59, x60, x61, x62, x1, x2], (by simp only [withs, Act.put, List.setIfInBounds_toArray, List.set_cons_succ, List.set_cons_zero]), (hJ.st0).mk_⟩
        · obtain ⟨rfl, hJ⟩ := hJ.st1 hn
          refine wpOp_run rfl (by rfl) (fun K hK => ?_)
          simp only [withs, Act.put, List.setIfInBounds_toArray, List.set_cons_succ, List.set_cons_zero]
          go_simp
          exact hK _ _ ⟨[x49, .slice Ao e.length co, x51, x52, x53, x54, x55, x56, x57, x58, x59, x60, x61, x62, .slice Ao e.length co, x2], (by simp only [withs, Act.put, List.setIfInBounds_toArray, List.set_cons_succ, List.set_cons_zero]), (hJ).mk_⟩
        · obtain ⟨g, rfl, rfl, ho, hk⟩ := hJ.st2 (hp 0 (of_decide_eq_true (by kernel_rfl))) (hp 1 (of_decide_eq_true (by kernel_rfl))) hn
          refine wpOp_run rfl (by rfl) (fun K hK => ?_)
          simp only [withs, Act.put, List.setIfInBounds_toArray, List.set_cons_succ, List.set_cons_zero]
          refine step_wp (by rfl) ?_
          refine step_append_all _ (by rfl) (.tmp 49) (.tmp 50) _ (by rfl) wx.heap.size 3 i0 _ 1 8 Tryd.underlying57 hi0 hz0 hz1 hz2 rfl (by omega) _ 0 [] (by rfl) ho _ e.length l1 (by rfl) HL1.out (HN1.out.to (fun b hb => hJ.below.block b (HSX.out b hb))) HO1.out (by unfold maxLen; omega) (by omega) hJ.below.size _ rfl e.length (by omega) ?_
          intro A' c' W' k1 k2 k3
          exact hK _ _ ⟨[.slice (some ⟨g, 0, none⟩) 0 0, .slice Ao e.length co, (.slice A' e.length c'), x52, x53, x54, x55, x56, x57, x58, x59, x60, x61, x62, x1, x2], (by show Act.put _ (some 51) _ = _; simp only [withs, Act.put, List.setIfInBounds_toArray, List.set_cons_succ, List.set_cons_zero]), (hk A' c' W' k1 k2 k3).mk_⟩
        · refine wpOp_run rfl (by rfl) (fun K hK => ?_)
          simp only [withs, Act.put, List.setIfInBounds_toArray, List.set_cons_succ, List.set_cons_zero]
          go_simp
          exact hK _ _ ⟨[x49, x50, x51, .pointer (some ⟨w.heap.size, 1, none⟩), x53, x54, x55, x56, x57, x58, x59, x60, x61, x62, x1, x2], (by simp only [withs, Act.put, List.setIfInBounds_toArray, List.set_cons_succ, List.set_cons_zero]), (hJ.st3).mk_⟩
        · obtain rfl := hJ.h52 (hp 3 (of_decide_eq_true (by kernel_rfl)))
          have q := (cell_keep (hJ.below.block _ (lt_heap HX0.out)) 1).trans (cv1 HX0.out)
          have ql : w.heap.size < W.heap.size := by have := hJ.below.size; have := lt_heap HX0.out; omega
          refine wpOp_run rfl (by rfl) (fun K hK => ?_)
          simp only [withs, Act.put, List.setIfInBounds_toArray, List.set_cons_succ, List.set_cons_zero]
          go_simp
          exact hK _ _ ⟨[x49, x50, x51, .pointer (some ⟨w.heap.size, 1, none⟩), .int .i64 ((i : Int)), x54, x55, x56, x57, x58, x59, x60, x61, x62, x1, x2], (by simp only [withs, Act.put, List.setIfInBounds_toArray, List.set_cons_succ, List.set_cons_zero]), (hJ.st4).mk_⟩
        · obtain rfl := hJ.h53 (hp 4 (of_decide_eq_true (by kernel_rfl)))
          refine wpOp_run rfl (by rfl) (fun K hK => ?_)
          simp only [withs, Act.put, List.setIfInBounds_toArray, List.set_cons_succ, List.set_cons_zero]
          go_simp
          exact hK _ _ ⟨[x49, x50, x51, x52, .int .i64 ((i : Int)), .slice (some ⟨W.heap.size, 0, none⟩) 1 1, x55, x56, x57, x58, x59, x60, x61, x62, x1, x2], (by simp only [withs, Act.put, List.setIfInBounds_toArray, List.set_cons_succ, List.set_cons_zero]), (hJ.st5).mk_⟩
        · obtain ⟨A, c, g, rfl, ho, rfl, hh, hk⟩ := hJ.st6 (hp 2 (of_decide_eq_true (by kernel_rfl))) (hp 5 (of_decide_eq_true (by kernel_rfl))) hn
          refine wpOp_run rfl (by rfl) (fun K hK => ?_)
          simp only [withs, Act.put, List.setIfInBounds_toArray, List.set_cons_succ, List.set_cons_zero]
          refine step_wp (by rfl) ?_
          refine step_append_all _ (by rfl) (.tmp 51) (.tmp 54) _ (by rfl) wx.heap.size 3 i0 _ 1 8 Tryd.underlying57 hi0 hz0 hz1 hz2 rfl (by omega) _ e.length ([] ++ l1) (by rfl) ho _ 1 [.int .i64 ((i : Int))] (by rfl) rfl (Or.inr ⟨_, _, rfl, World.news_of_block (cs := #[.int .i64 ((i : Int))]) hh⟩) (by simp [Value.oneCell']) (by unfold maxLen; omega) (by omega) hJ.below.size _ rfl (e.length + 1) rfl ?_
          intro A' c' W' k1 k2 k3
          exact hK _ _ ⟨[x49, x50, .slice A e.length c, x52, x53, .slice (some ⟨g, 0, none⟩) 1 1, (.slice A' (e.length + 1) c'), x56, x57, x58, x59, x60, x61, x62, x1, x2], (by show Act.put _ (some 55) _ = _; simp only [withs, Act.put, List.setIfInBounds_toArray, List.set_cons_succ, List.set_cons_zero]), (hk A' c' W' k1 k2 k3).mk_⟩
        · refine wpOp_run rfl (by rfl) (fun K hK => ?_)
          simp only [withs, Act.put, List.setIfInBounds_toArray, List.set_cons_succ, List.set_cons_zero]
          go_simp
          exact hK _ _ ⟨[x49, x50, x51, x52, x53, x54, x55, .slice (some ⟨W.heap.size, 0, none⟩) 0 0, x57, x58, x59, x60, x61, x62, x1, x2], (by simp only [withs, Act.put, List.setIfInBounds_toArray, List.set_cons_succ, List.set_cons_zero]), (hJ.st7).mk_⟩
        · obtain ⟨rfl, hJ⟩ := hJ.st8 hn
          refine wpOp_run rfl (by rfl) (fun K hK => ?_)
          simp only [withs, Act.put, List.setIfInBounds_toArray, List.set_cons_succ, List.set_cons_zero]
          go_simp
          exact hK _ _ ⟨[x49, x50, x51, x52, x53, x54, x55, x56, .slice An e.length cn, x58, x59, x60, x61, x62, x1, .slice An e.length cn], (by simp only [withs, Act.put, List.setIfInBounds_toArray, List.set_cons_succ, List.set_cons_zero]), (hJ).mk_⟩
        · obtain ⟨g, rfl, rfl, ho, hk⟩ := hJ.st9 (hp 7 (of_decide_eq_true (by kernel_rfl))) (hp 8 (of_decide_eq_true (by kernel_rfl))) hn
          refine wpOp_run rfl (by rfl) (fun K hK => ?_)
          simp only [withs, Act.put, List.setIfInBounds_toArray, List.set_cons_succ, List.set_cons_zero]
          refine step_wp (by rfl) ?_
          refine step_append_all _ (by rfl) (.tmp 56) (.tmp 57) _ (by rfl) wx.heap.size 3 i0 _ 1 8 Tryd.underlying57 hi0 hz0 hz1 hz2 rfl (by omega) _ 0 [] (by rfl) ho _ e.length l2 (by rfl) HL2.out (HN2.out.to (fun b hb => hJ.below.block b (HSX.out b hb))) HO2.out (by unfold maxLen; omega) (by omega) hJ.below.size _ rfl e.length (by omega) ?_
          intro A' c' W' k1 k2 k3
          exact hK _ _ ⟨[x49, x50, x51, x52, x53, x54, x55, .slice (some ⟨g, 0, none⟩) 0 0, .slice An e.length cn, (.slice A' e.length c'), x59, x60, x61, x62, x1, x2], (by show Act.put _ (some 58) _ = _; simp only [withs, Act.put, List.setIfInBounds_toArray, List.set_cons_succ, List.set_cons_zero]), (hk A' c' W' k1 k2 k3).mk_⟩
        · refine wpOp_run rfl (by rfl) (fun K hK => ?_)
          simp only [withs, Act.put, List.setIfInBounds_toArray, List.set_cons_succ, List.set_cons_zero]
          go_simp
          exact hK _ _ ⟨[x49, x50, x51, x52, x53, x54, x55, x56, x57, x58, .pointer (some ⟨(w.heap.size + 1 + 1), 1, none⟩), x60, x61, x62, x1, x2], (by simp only [withs, Act.put, List.setIfInBounds_toArray, List.set_cons_succ, List.set_cons_zero]), (hJ.st10).mk_⟩
        · obtain rfl := hJ.h59 (hp 10 (of_decide_eq_true (by kernel_rfl)))
          have q := (cell_keep (hJ.below.block _ (lt_heap HX2.out)) 1).trans (cv1 HX2.out)
          have ql : w.heap.size + 1 + 1 < W.heap.size := by have := hJ.below.size; have := lt_heap HX2.out; omega
          refine wpOp_run rfl (by rfl) (fun K hK => ?_)
          simp only [withs, Act.put, List.setIfInBounds_toArray, List.set_cons_succ, List.set_cons_zero]
          go_simp
          exact hK _ _ ⟨[x49, x50, x51, x52, x53, x54, x55, x56, x57, x58, .pointer (some ⟨(w.heap.size + 1 + 1), 1, none⟩), .int .i64 ((n : Int) + 1), x61, x62, x1, x2], (by simp only [withs, Act.put, List.setIfInBounds_toArray, List.set_cons_succ, List.set_cons_zero]), (hJ.st11).mk_⟩
        · obtain rfl := hJ.h60 (hp 11 (of_decide_eq_true (by kernel_rfl)))
          refine wpOp_run rfl (by rfl) (fun K hK => ?_)
          simp only [withs, Act.put, List.setIfInBounds_toArray, List.set_cons_succ, List.set_cons_zero]
          go_simp
          exact hK _ _ ⟨[x49, x50, x51, x52, x53, x54, x55, x56, x57, x58, x59, .int .i64 ((n : Int) + 1), .slice (some ⟨W.heap.size, 0, none⟩) 1 1, x62, x1, x2], (by simp only [withs, Act.put, List.setIfInBounds_toArray, List.set_cons_succ, List.set_cons_zero]), (hJ.st12).mk_⟩
        · obtain ⟨A, c, g, rfl, ho, rfl, hh, hk⟩ := hJ.st13 (hp 9 (of_decide_eq_true (by kernel_rfl))) (hp 12 (of_decide_eq_true (by kernel_rfl))) hn
          refine wpOp_run rfl (by rfl) (fun K hK => ?_)
          simp only [withs, Act.put, List.setIfInBounds_toArray, List.set_cons_succ, List.set_cons_zero]
          refine step_wp (by rfl) ?_
          refine step_append_all _ (by rfl) (.tmp 58) (.tmp 61) _ (by rfl) wx.heap.size 3 i0 _ 1 8 Tryd.underlying57 hi0 hz0 hz1 hz2 rfl (by omega) _ e.length ([] ++ l2) (by rfl) ho _ 1 [.int .i64 ((n : Int) + 1)] (by rfl) rfl (Or.inr ⟨_, _, rfl, World.news_of_block (cs := #[.int .i64 ((n : Int) + 1)]) hh⟩) (by simp [Value.oneCell']) (by unfold maxLen; omega) (by omega) hJ.below.size _ rfl (e.length + 1) rfl ?_
          intro A' c' W' k1 k2 k3
          exact hK _ _ ⟨[x49, x50, x51, x52, x53, x54, x55, x56, x57, .slice A e.length c, x59, x60, .slice (some ⟨g, 0, none⟩) 1 1, (.slice A' (e.length + 1) c'), x1, x2], (by show Act.put _ (some 62) _ = _; simp only [withs, Act.put, List.setIfInBounds_toArray, List.set_cons_succ, List.set_cons_zero]), (hk A' c' W' k1 k2 k3).mk_⟩
        · refine wpOp_run rfl (by rfl) (fun K hK => ?_)
          simp only [withs, Act.put, List.setIfInBounds_toArray, List.set_cons_succ, List.set_cons_zero]
          go_simp
          exact hK _ _ ⟨[x49, x50, x51, x52, x53, x54, x55, x56, x57, x58, x59, x60, x61, x62, x55, x2], (by simp only [withs, Act.put, List.setIfInBounds_toArray, List.set_cons_succ, List.set_cons_zero]), (hJ.st14 (hp 6 (of_decide_eq_true (by kernel_rfl)))).mk_⟩
        · refine wpOp_run rfl (by rfl) (fun K hK => ?_)
          simp only [withs, Act.put, List.setIfInBounds_toArray, List.set_cons_succ, List.set_cons_zero]
          go_simp
          exact hK _ _ ⟨[x49, x50, x51, x52, x53, x54, x55, x56, x57, x58, x59, x60, x61, x62, x1, x62], (by simp only [withs, Act.put, List.setIfInBounds_toArray, List.set_cons_succ, List.set_cons_zero]), (hJ.st15 (hp 13 (of_decide_eq_true (by kernel_rfl)))).mk_⟩
    · go_wp2_with fail
      go_meet
      rw [hoe, hne, hupn, hnl]
      have hgr : Below w.heap.size w (((w.alloc (.cells #[.int .i64 kd, .int .i64 idn, .string nx, .string sa, .slice Aa na ca, .slice A v.kids.length c] 65)).alloc (.cells #[.int .i64 0, .int .i64 0, .string ⟨#[]⟩, .string ⟨#[]⟩, .slice none 0 0, .slice none 0 0] 65)).alloc (.cells #[.int .i64 kd, .int .i64 idn, .string nx, .string sa, .slice Aa na ca, .slice none 0 0] 65)) := by go_grown
      refine ⟨HUPO.out.keep (fun b hb => hgr.block b (HSU.out b hb).1) (fun b hb => Or.inl hb), HUPN.out.keep (fun b hb => hgr.block b (HSU.out b hb).1) (fun b hb => Or.inl hb), Mods.below hgr, by simp, (hgr.block bn hbl).trans HBN.out, heap_old (by simp <;> omega) (heap_old (by simp) (heap_at rfl)), heap_old (by simp) (heap_at (by simp)), heap_at (by simp)⟩
  case rest =>
  obtain ⟨hup1, hup2, hmo, zx, hbx, hx0, hx1, hx2⟩ := hcut
  rename World => wx
  have hnl : v.nlab n = ⟨kd, (v.nlab n).id, nx, ty⟩ := by
    rcases hab with ⟨_, _, _, _, _, _, h⟩ | ⟨_, _, _, _, h⟩ <;> (rw [h])
  have hul := v.env_len e n
  have hks := v.nodes_sum
  have hSx : ∀ b, S b → wx.heap[b]? = w.heap[b]? := fun b hb => hmo.block b (HS.out b hb).1 (HS.out b hb).2
  clear hab e0 e0f
  have HUP1 := Lib.hid hup1
  have HUP2 := Lib.hid hup2
  have HMO := Lib.hid hmo
  have HX1 := Lib.hid hx1
  have HNL := Lib.hid hnl
  have HSX := Lib.hid hSx
  have HX2 := Lib.hid hx2
  have HBX := Lib.hid hbx
  clear hup1 hup2 hmo hx1 hnl hSx hx2 hbx
  have hx0_0 := cv0 hx0
  have hx0_1 := cv1 hx0
  have hx0_2 := cv2 hx0
  have hx0_3 := cv3 hx0
  have hx0_4 := cv4 hx0
  have hx0_5 := cv5 hx0
  have hx0_l := lt_heap hx0
  have HX0 := Lib.hid hx0
  clear hx0
  go_wp2_with fail
  go_loopg [66] v.kids.length (fun k vi wr => ∃ (j : Nat) (q : Value), j + k = v.kids.length ∧ vi = .int .i64 j ∧
    (wr.heap[w.heap.size]? = some (.cells #[.int .i64 kd, .int .i64 idn, .string nx, .string sa, .slice Aa na ca, .slice A v.kids.length c] 65 (0, 0)) ∧
    wr.heap[w.heap.size + 1]? = some (.cells #[.int .i64 0, .int .i64 0, .string ⟨#[]⟩, .string ⟨#[]⟩, .slice none 0 0, .slice none 0 0] 65 (0, 0)) ∧
    wr.heap[w.heap.size + 1 + 1]? = some (.cells #[.int .i64 kd, .int .i64 (v.nlab n).id, .string nx, .string sa, .slice Aa na ca, q] 65 (0, 0))) ∧
    nmRep.Own 65 wx.heap.size wr (New S wx.heap.size wr) q ((thr (fun x k => x.fresh (v.env e n) k) (v.kids.take j) (v.upn n)).1.map Nm.tr) ∧
    wr.heap[bn]? = some (.cells #[.int .i64 ((thr (fun x k => x.fresh (v.env e n) k) (v.kids.take j) (v.upn n)).2 : Nat)] 3 (0, 0)) ∧
    (UpAt wr (fun k => SU k ∨ (w.heap.size + 3 ≤ k ∧ k < wx.heap.size)) u1 (olds (v.env e n)) ∧ UpAt wr (fun k => SU k ∨ (w.heap.size + 3 ≤ k ∧ k < wx.heap.size)) u2 (news (v.env e n))) ∧ Mods (· = bn) w.heap.size w wr ∧ wx.heap.size ≤ wr.heap.size)
  case atStart =>
    exact ⟨0, .slice none 0 0, by omega, rfl, ⟨HX0.out, HX1.out, HX2.out⟩, by simpa [thr] using Rep.Own.nil, by simpa [thr] using HBX.out, ⟨HUP1.out, HUP2.out⟩, HMO.out, Nat.le_refl _⟩
  case round =>
    obtain ⟨j, q, hj, rfl, ⟨hx0, hx1, hx2⟩, hown, hbr, hupr, hmr, zr⟩ := hrel
    obtain ⟨Aq, cq, hq⟩ := hown.len
    have hlen : ((thr (fun x k => x.fresh (v.env e n) k) (v.kids.take j) (v.upn n)).1.map Nm.tr).length = j := by rw [List.length_map, thr_len]; simp; omega
    rw [hlen] at hq
    subst hq
    have hblk : ∀ k, (Value.slice Aq j cq).ownBlock = some k → wx.heap.size ≤ k ∧ k < wr.heap.size := hown.block
    have hkS : ∀ b, S b → wr.heap[b]? = w.heap[b]? := fun b hb => hmr.block b (HS.out b hb).1 (HS.out b hb).2
    clear hx0_0 hx0_1 hx0_2 hx0_3 hx0_4 hx0_5 hx0_l
    have HOWN := Lib.hid hown
    have HBR := Lib.hid hbr
    have HUPR := Lib.hid hupr
    have HMR := Lib.hid hmr
    have HLEN := Lib.hid hlen
    have HBLK := Lib.hid hblk
    have HKS := Lib.hid hkS
    clear hown hbr hupr hmr hlen hblk hkS
    have hx0_0 := cv0 hx0
    have hx0_1 := cv1 hx0
    have hx0_2 := cv2 hx0
    have hx0_3 := cv3 hx0
    have hx0_4 := cv4 hx0
    have hx0_5 := cv5 hx0
    have hx0_l := lt_heap hx0
    have HX0 := Lib.hid hx0
    clear hx0
    have hx1_0 := cv0 hx1
    have hx1_1 := cv1 hx1
    have hx1_2 := cv2 hx1
    have hx1_3 := cv3 hx1
    have hx1_4 := cv4 hx1
    have hx1_5 := cv5 hx1
    have hx1_f0 := free_heap hx1 0
    have hx1_f1 := free_heap hx1 1
    have hx1_f2 := free_heap hx1 2
    have hx1_f3 := free_heap hx1 3
    have hx1_f4 := free_heap hx1 4
    have hx1_f5 := free_heap hx1 5
    have hx1_l := lt_heap hx1
    have HX1 := Lib.hid hx1
    clear hx1
    have hx2_0 := cv0 hx2
    have hx2_1 := cv1 hx2
    have hx2_2 := cv2 hx2
    have hx2_3 := cv3 hx2
    have hx2_4 := cv4 hx2
    have hx2_5 := cv5 hx2
    have hx2_f0 := free_heap hx2 0
    have hx2_f1 := free_heap hx2 1
    have hx2_f2 := free_heap hx2 2
    have hx2_f3 := free_heap hx2 3
    have hx2_f4 := free_heap hx2 4
    have hx2_f5 := free_heap hx2 5
    have hx2_l := lt_heap hx2
    have HX2 := Lib.hid hx2
    clear hx2
    by_cases hjl : j < v.kids.length
    · obtain ⟨b, o, kc, rfl, hSb, hkr, hkc⟩ := Rep.Sl.at_ HL.out (k := j) (a := v.kids[j].tr) (by simp [hjl])
      obtain ⟨s1, A1, n1, c1, B1, m1, d1, rfl, _, _⟩ := Nt.shape hkr
      have hk := HKS.out b hSb
      have e0 : wr.cell? ⟨b, o + j * 6, none⟩ = _ := (cell_keep hk _).trans (hkc 0 _ rfl)
      have e1 : wr.cell? ⟨b, o + j * 6 + 1, none⟩ = _ := (cell_keep hk _).trans (hkc 1 _ rfl)
      have e2 : wr.cell? ⟨b, o + j * 6 + 2, none⟩ = _ := (cell_keep hk _).trans (hkc 2 _ rfl)
      have e3 : wr.cell? ⟨b, o + j * 6 + 3, none⟩ = _ := (cell_keep hk _).trans (hkc 3 _ rfl)
      have e4 : wr.cell? ⟨b, o + j * 6 + 4, none⟩ = _ := (cell_keep hk _).trans (hkc 4 _ rfl)
      have e5 : wr.cell? ⟨b, o + j * 6 + 5, none⟩ = _ := (cell_keep hk _).trans (hkc 5 _ rfl)
      have hSbb := (HS.out b hSb).1
      have zb : b < wr.heap.size := by omega
      have q0 : (0 : Int) ≤ (j : Int) := by omega
      have q1 : (j : Int) < (v.kids.length : Int) := by omega
      have hnj := HKN.out j hjl
      have hst := sum_take_le Nm.nodes v.kids j hjl
      have hot := fresh_thr_le (v.env e n) (v.kids.take j) (v.upn n)
      have hth := thr_take (fun x k => x.fresh (v.env e n) k) hjl (v.upn n)
      generalize hTj : thr (fun x k => x.fresh (v.env e n) k) (v.kids.take j) (v.upn n) = Tj at *
      have hsu2 : ∀ k, (SU k ∨ (w.heap.size + 3 ≤ k ∧ k < wx.heap.size)) → k < wr.heap.size ∧ k ≠ bn := by
        rintro k (hk | hk)
        · have := HSU.out k hk; exact ⟨by omega, this.2⟩
        · exact ⟨by omega, by omega⟩
      have hih := Lib.hid (IH.out v.kids[j] (v.env e n) Tj.2 [.int .i64 v.kids[j].tr.lab.kind, .int .i64 v.kids[j].tr.lab.id, .string v.kids[j].tr.lab.nm, .string s1, .slice A1 n1 c1, .slice B1 m1 d1] u1 u2 wr.drew S (fun k => SU k ∨ (w.heap.size + 3 ≤ k ∧ k < wx.heap.size)) bn (by have := HN.out; omega) (by omega) (by omega) (nmRep.keep hkr (fun k hk => HKS.out k hk) (fun _ h => h)) (HUPR.out.1.keep (fun _ _ => rfl) (fun _ h => h)) (HUPR.out.2.keep (fun _ _ => rfl) (fun _ h => h)) (fun k hk => ⟨by show k < wr.heap.size; have := (HS.out k hk).1; omega, (HS.out k hk).2⟩) hsu2 HBR.out)
      clear hsu2
      clear hkr hkc hk hnj hst hot
      have HIH := Lib.hid hih
      have HTH := Lib.hid hth
      clear hih hth
      have hxc : w.heap.size + 1 + 1 < wr.heap.size := by omega
      have hb0 : w.heap.size ≠ bn := by omega
      have hb1 : w.heap.size + 1 ≠ bn := by omega
      have hb2 : w.heap.size + 1 + 1 ≠ bn := by omega
      go_wp2_with fail
      go_region_law (first
          | (refine step_call (by rfl) 75 _ (by go_simp) (R := FreshAt v.kids[j] (v.env e n) Tj.2 bn wr.drew S) HIH.out.out ?_; rintro e w2 ⟨ds, rfl, hu, hc2, hm2⟩; refine ⟨_, rfl, ?_⟩; obtain ⟨s2, A2, n2, c2, B2, m2, d2, rfl, _, _⟩ := Nt.shape hu; have z2 : wr.heap.size ≤ w2.heap.size := hm2.size; have k0 := (hm2.block _ hx0_l hb0).trans HX0.out; have k1 := (hm2.block _ hx1_l hb1).trans HX1.out; have k2 := (hm2.block _ hx2_l hb2).trans HX2.out; have k2_5 := cv5 k2; have k2_f := free_heap k2 5; have d3 : w.heap.size + 1 + 1 < w2.heap.size := (by omega); have hkS2 : ∀ b, S b → w2.heap[b]? = wr.heap[b]? := (fun b hb => hm2.block b (by show b < wr.heap.size; have := (HS.out b hb).1; omega) (HS.out b hb).2); have hown2 := HOWN.out.growEx (w' := w2) hkS2 (fun b h1 h2 => hm2.block b h2 (by omega)) z2; obtain ⟨xs, hownx, hallx⟩ := id hown2; rw [HLEN.out] at hownx; have HOWNX := Lib.hid hownx; have HALLX := Lib.hid hallx; have HU := Lib.hid hu; have HM2 := Lib.hid hm2; have HC2 := Lib.hid hc2; have K0 := Lib.hid k0; have K1 := Lib.hid k1; have K2 := Lib.hid k2; clear hu hm2 hc2 k0 k1 k2 hkS2 hown2 hownx hallx)
          | (refine step_append_lies _ (by rfl) (.tmp 70) (.tmp 80) _ (by rfl) wx.heap.size 65 k0 _ 6 96 Tryd.underlying63 hk0 kz0 kz1 kz2 rfl (by omega) (.slice Aq j cq) j xs (by rfl) (HOWNX.out.alloc _) ⟨w2.heap.size, 0, none⟩ 1 1 [.int .i64 (v.kids[j].fresh (v.env e n) Tj.2).1.tr.lab.kind, .int .i64 (v.kids[j].fresh (v.env e n) Tj.2).1.tr.lab.id, .string (v.kids[j].fresh (v.env e n) Tj.2).1.tr.lab.nm, .string s2, .slice A2 n2 c2, .slice B2 m2 d2] (by rfl) (by rfl) (World.news_of_block (cs := #[.int .i64 (v.kids[j].fresh (v.env e n) Tj.2).1.tr.lab.kind, .int .i64 (v.kids[j].fresh (v.env e n) Tj.2).1.tr.lab.id, .string (v.kids[j].fresh (v.env e n) Tj.2).1.tr.lab.nm, .string s2, .slice A2 n2 c2, .slice B2 m2 d2]) (t := 65) (fr := (0, 0)) (heap_alloc_new w2 _)) (by simp [Value.oneCell']) (by omega) (by unfold maxLen; omega) (by omega) (by simp; omega) (w2.heap.size + 1) (by simp) ?_; intro gg cap w3 hown3 hgrow hat hlt; have kk : ∀ b, b < w2.heap.size → (Value.slice Aq j cq).ownBlock ≠ some b → w3.heap[b]? = w2.heap[b]? := (fun b hb hne => (hgrow.block b (by simp; omega) (fun e => hne e.symm)).trans (heap_old hb rfl)); have h3 := (kk (w.heap.size + 1 + 1) d3 (fun e => by have := (HBLK.out _ e).1; omega)).trans K2.out; have h4 := (kk (w.heap.size + 1) (by omega) (fun e => by have := (HBLK.out _ e).1; omega)).trans K1.out; have h5 := (kk w.heap.size (by omega) (fun e => by have := (HBLK.out _ e).1; omega)).trans K0.out; have h3_5 := cv5 h3; have h3_f := free_heap h3 5; have H3 := Lib.hid h3; have H4 := Lib.hid h4; have H5 := Lib.hid h5; clear h3 h4 h5; have z3 : w2.heap.size + 1 ≤ w3.heap.size := (by have := hgrow.size; simpa using this); have HOWN3 := Lib.hid hown3; have HGROW := Lib.hid hgrow; have HAT := Lib.hid hat; have HKK := Lib.hid kk; clear hown3 hgrow hat kk)
          | fail)
      all_goals
        go_wp2_with fail
        go_roundg (v.kids.length - (j + 1))
        case measure => omega
        case rel =>
          have hstep := Rep.stepEx (E := 65) (S := S) (base := wx.heap.size) (a := (v.kids[j].fresh (v.env e n) Tj.2).1.tr) HLEN.out (fun b hb => by have := (HS.out b hb).1; omega) (by omega) HALLX.out HU.out (fun b hb => by
            rcases hb with hb | ⟨hb, hb'⟩
            · exact ⟨Or.inl hb, fun e => by have := (HBLK.out b e).1; have := (HS.out b hb).1; omega⟩
            · have h' : wr.heap.size ≤ b := hb
              exact ⟨Or.inr ⟨by omega, hb'⟩, fun e => by have := (HBLK.out b e).2; omega⟩) HOWN3.out HGROW.out HAT.out
          have hkb : w3.heap[bn]? = w2.heap[bn]? := HKK.out bn (by omega) (fun e => by have := (HBLK.out _ e).1; omega)
          have hm3 : Mods (· = bn) w.heap.size w w3 := ((HMR.out.drew.trans (HM2.out.mono (B' := w.heap.size) (by show w.heap.size ≤ wr.heap.size; omega))).alloc (by omega) _).grown HGROW.out (by simp; omega) (fun k hk => by have := (HBLK.out k hk).1; omega)
          have hkg : ∀ k, k ≠ w.heap.size + 1 + 1 → (w3.setCell ⟨w.heap.size + 1 + 1, 5, none⟩ (.slice (some ⟨gg, 0, none⟩) (j + 1) cap)).heap[k]? = w3.heap[k]? := fun k hk => heap_far _ hk rfl
          refine ⟨j + 1, .slice (some ⟨gg, 0, none⟩) (j + 1) cap, by omega, by go_num, ⟨(hkg _ (by omega)).trans H5.out, (hkg _ (by omega)).trans H4.out, heap_set H3.out 5 _⟩, ?_, ?_, ?_, hm3.setCell (by simp <;> omega) _, by rw [size_set]; omega⟩
          · rw [HTH.out, List.map_append]
            exact hstep.growEx (fun b hb => hkg b (by have := (HS.out b hb).1; omega)) (fun b hb _ => hkg b (by omega)) (by rw [size_set]; omega)
          · rw [HTH.out]
            exact (hkg bn (by omega)).trans (hkb.trans HC2.out)
          · have hfar : ∀ b, (SU b ∨ (w.heap.size + 3 ≤ b ∧ b < wx.heap.size)) → (w3.setCell ⟨w.heap.size + 1 + 1, 5, none⟩ (.slice (some ⟨gg, 0, none⟩) (j + 1) cap)).heap[b]? = wr.heap[b]? := fun b hb => by
              have h1 : b < wr.heap.size ∧ b ≠ bn ∧ b ≠ w.heap.size + 1 + 1 ∧ (Value.slice Aq j cq).ownBlock ≠ some b := by
                rcases hb with hb | hb
                · have := HSU.out b hb
                  exact ⟨by omega, this.2, by omega, fun e => by have := (HBLK.out b e).1; omega⟩
                · exact ⟨by omega, by omega, by omega, fun e => by have := (HBLK.out b e).1; omega⟩
              exact (hkg b h1.2.2.1).trans ((HKK.out b (by omega) h1.2.2.2).trans (HM2.out.block b h1.1 h1.2.1))
            exact ⟨HUPR.out.1.keep hfar (fun _ h => h), HUPR.out.2.keep hfar (fun _ h => h)⟩
    · go_wp2_with fail
      have hjk : j = v.kids.length := by omega
      refine bodyPost_ret (v := .agg #[.int .i64 kd, .int .i64 (v.nlab n).id, .string nx, .string sa, .slice Aa na ca, .slice Aq j cq]) (by simp [results, Tryd.results75, go_sem, hx1_0, hx1_1, hx1_2, hx1_3, hx1_4, hx1_5, hx1_l]) rfl ?_
      have hown := HOWN.out
      have hbr := HBR.out
      rw [hjk, List.take_length] at hown hbr
      refine ⟨[.int .i64 kd, .int .i64 (v.nlab n).id, .string nx, .string sa, .slice Aa na ca, .slice Aq j cq], rfl, ?_, far6 (by omega) hbr, (((((HMR.out.setCell (by simp) _).setCell (by simp) _).setCell (by simp) _).setCell (by simp) _).setCell (by simp) _).setCell (by simp) _⟩
      rw [HNL.out]
      refine Nt.shut (a := ⟨kd, (v.nlab n).id, nx, ty⟩) HNM.out ?_ ?_
      · exact Ty.In_keep (fun b hb => far6 (by have := (HS.out b hb).1; omega) (HKS.out b hb)) (fun b hb => Or.inl hb) _ _ _ HTY.out
      · rw [hjk]
        exact (Rep.Own.sl (S' := New S wx.heap.size wr) hown (by rw [List.length_map, thr_len]; unfold maxLen; omega) (fun b hb => hb) (fun b h1 h2 => Or.inr ⟨h1, h2⟩)).keep (fun b hb => far6 (by rcases hb with hb | hb; have := (HS.out b hb).1; omega; omega) rfl) (fun b hb => hb.imp_right (fun h => ⟨by omega, lt6 h.2⟩))


end Go.Proofs.YthflahcnkhmpaabDoor
