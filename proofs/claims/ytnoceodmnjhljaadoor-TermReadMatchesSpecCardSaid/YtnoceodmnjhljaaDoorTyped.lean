/-
  term.Typed: the walk: the type of a term whose nodes are right.
-/
import Derived.Test.YtnoceodmnjhljaaDoorProg
import Derived.Test.YtnoceodmnjhljaaDoorCloneTm
import Derived.Test.YtnoceodmnjhljaaDoorSameTy
import Derived.Deep.RegionLawGrows
import Derived.Deep.DeepCutAuto
namespace Go.Proofs.YtnoceodmnjhljaaDoor
open Go Go.RowKit
set_option linter.unusedSimpArgs false
set_option linter.unusedVariables false

/-- A context in memory: a slice of types, the innermost variable's last. -/
structure Ctx (w : World) (S : Nat → Prop) (u : Value) (c : List Sy) : Prop where
  sl : tyRep.Sl w S u (c.reverse.map Sy.ty)
  form : ∃ A n k, u = .slice A n k ∧ n ≤ k ∧ (A = none → n = 0 ∧ k = 0)
theorem Ctx.nil {w : World} {S : Nat → Prop} : Ctx w S (.slice none 0 0) [] := ⟨Rep.Sl.nil, none, 0, 0, rfl, Nat.le_refl _, fun _ => ⟨rfl, rfl⟩⟩
theorem Ctx.keep {w w' : World} {S S' : Nat → Prop} {u : Value} {c : List Sy} (h : Ctx w S u c) (hk : ∀ b, S b → w'.heap[b]? = w.heap[b]?) (hS : ∀ b, S b → S' b) : Ctx w' S' u c := ⟨h.sl.keep hk hS, h.form⟩

/-- What Typed returns. -/
def TypRes (r : Option Sy) (w w' : World) (S : Nat → Prop) (e : Ending) : Prop :=
  ∃ v0 v1 ok T, e = .returned (.tuple #[.agg #[v0, v1], .bool ok]) ∧ Ty.In w' (Ex S w w') T v0 v1 ∧ (match r with | some s => ok = true ∧ T = s.ty | none => ok = false)

theorem Ty.In_mono_ {w : World} {S S' : Nat → Prop} {t : Ty} {v0 v1 : Value} (h : Ty.In w S t v0 v1) (hS : ∀ b, S b → S' b) : Ty.In w S' t v0 v1 := Ty.In_keep (fun _ _ => rfl) hS _ _ _ h
theorem Tm.kid {w : World} {S : Nat → Prop} {l : List Tm} {A : Option Addr} {n c k : Nat} {t : Tm} (h : tmRep.Sl w S (.slice A n c) l) (hk : l[k]? = some t) :
    ∃ b o cs, A = some ⟨b, o, none⟩ ∧ S b ∧ tmRep.R w S t cs ∧ ∀ j u, cs[j]? = some u → w.cell? ⟨b, o + k * 6 + j, none⟩ = some u := Rep.Sl.at_ h hk

theorem Rep.Sl.olds {α : Type} {ρ : Rep α} {w : World} {S : Nat → Prop} {A : Option Addr} {n k : Nat} {l : List α} (h : ρ.Sl w S (.slice A n k) l) (hn : A = none → n = 0) :
    ∃ xs, ρ.All w S l xs ∧ xs.length = n * ρ.size ∧ l.length = n ∧ ∀ a, A = some a → ∀ j u, xs[j]? = some u → w.cell? (a.add j) = some u := by
  obtain ⟨A', n', k', e, hl, hm, hA⟩ := h
  simp only [Value.slice.injEq] at e
  obtain ⟨rfl, rfl, rfl⟩ := e
  by_cases h0 : 0 < n
  · obtain ⟨b, o, xs, e, hS, hall, hc⟩ := hA h0
    refine ⟨xs, hall, by rw [hall.len, hl], hl, fun a ha j u hj => ?_⟩
    rw [e] at ha
    obtain rfl := Option.some.inj ha
    have := hc j u hj
    rw [← this]; congr 1; unfold Addr.add; split <;> simp_all
  · obtain rfl : n = 0 := by omega
    obtain rfl := List.eq_nil_of_length_eq_zero hl
    exact ⟨[], rfl, by simp, rfl, by simp⟩
/-- A context with one variable more. -/
theorem Ctx.push {w W w3 : World} {S : Nat → Prop} {v' : Value} {c : List Sy} {s : Sy} {n : Nat} {olds news : List Value} (hall : tyRep.All w S (c.reverse.map Sy.ty) olds) (hs : tyRep.R w S s.ty news) (hlen : c.length = n)
    (hown : w3.ownsRow W.heap.size 24 2 v' (n + 1) (olds ++ news)) (hg : W.grownBy w3 none) (hk : ∀ b, S b → W.heap[b]? = w.heap[b]?) (hlo : ∀ b, S b → b < W.heap.size) (hm : n + 1 ≤ maxLen) :
    Ctx w3 (fun b => S b ∨ (W.heap.size ≤ b ∧ b < w3.heap.size)) v' (s :: c) := by
  have hk3 : ∀ b, S b → w3.heap[b]? = w.heap[b]? := fun b hb => (hg.block b (hlo b hb) (by simp)).trans (hk b hb)
  have hl : ((s :: c).reverse.map Sy.ty) = c.reverse.map Sy.ty ++ [s.ty] := by simp
  have hb : ∀ b, v'.ownBlock = some b → W.heap.size ≤ b := fun b hb => (hown.lt b hb).1
  constructor
  · rw [hl]
    have hO : tyRep.Own 24 W.heap.size w3 S v' (c.reverse.map Sy.ty ++ [s.ty]) := by
      refine ⟨olds ++ news, by simpa [tyRep, hlen] using hown, ?_⟩
      have h1 := (hall.keep (S' := fun b => S b ∧ v'.ownBlock ≠ some b) hk3 (fun b hb' => ⟨hb', fun e => by have := hb b e; have := hlo b hb'; omega⟩))
      have h2 := tyRep.keep (S' := fun b => S b ∧ v'.ownBlock ≠ some b) hs hk3 (fun b hb' => ⟨hb', fun e => by have := hb b e; have := hlo b hb'; omega⟩)
      exact h1.append (Rep.All.single h2)
    exact hO.sl (by simp; omega) (fun b h => Or.inl h) (fun b h1 h2 => Or.inr ⟨h1, h2⟩)
  · obtain ⟨g, cap, rfl, _, _⟩ := hown.form (by omega)
    refine ⟨_, _, _, rfl, ?_, by simp⟩
    rcases hown.2 with ⟨h, _⟩ | ⟨g', cap', cur, e, _, _, h, _⟩
    · cases h
    · simp only [Value.slice.injEq] at e; omega

set_option maxRecDepth 100000 in
set_option maxHeartbeats 1600000 in
theorem typed_any : ∀ (v : Tv) (c : List Sy) (cs : List Value) (u : Value) (w : World) (S : Nat → Prop), v.ok c.length → c.length + v.depth ≤ 100000 → tmRep.R w S v.tm cs → Ctx w S u c → (∀ b, S b → b < w.heap.size) →
    Calls Tryd.prog 27 #[.agg cs.toArray, u] w fun e w' => TypRes (v.typ c) w w' S e ∧ Below w.heap.size w w' := by
  intro v
  induction v with
  | con nm s =>
    intro c cs u w S hok hd h hc hS
    obtain ⟨u0, u1, vs, rfl, hnm, hty, hl⟩ := Tm.open_ h
    obtain ⟨sa, Aa, na, ca, rfl, rfl⟩ := hty.shape
    obtain ⟨A, n, cp, rfl, hln, hm, _⟩ := hl
    clear h hc hnm hok hd hln hm
    have HS := Lib.hid hS
    have HTY := Lib.hid hty
    clear hS hty
    go_enter Tryd.func27, Tryd.ntmps27
    go_wp2_with fail
    refine bodyPost_ret (v := .tuple #[.agg #[.string sa, .slice Aa na ca], .bool true]) (by simp [results, Tryd.results27, go_sem]) rfl ?_
    exact ⟨⟨_, _, _, s.ty, rfl, (HTY.out.keep (fun b hb => heap_old (by have := HS.out b hb; simp; omega) (heap_old (HS.out b hb) rfl))).mono (fun b hb => Or.inl hb), rfl, rfl⟩, by go_grown⟩
  | var i =>
    intro c cs u w S hok hd h hc hS
    obtain ⟨u0, u1, vs, rfl, hnm, hty, hl⟩ := Tm.open_ h
    obtain ⟨sa, Aa, na, ca, rfl, rfl⟩ := hty.shape
    obtain ⟨A, n, cp, rfl, hln, hm, _⟩ := hl
    obtain ⟨hsl, A1, n1, k1, rfl, hnk, hnone⟩ := hc
    have hi : i < c.length := hok
    have hsl' := hsl
    obtain ⟨A2, n2, k2, e2, hl2, hm2, _⟩ := hsl
    simp only [Value.slice.injEq] at e2
    obtain ⟨rfl, rfl, rfl⟩ := e2
    have hn1 : n1 = c.length := by simpa using hl2.symm
    obtain ⟨p, hp⟩ : ∃ p, n1 = p + 1 + i := ⟨n1 - 1 - i, by omega⟩
    have hget : (c.reverse.map Sy.ty)[p]? = some c[i].ty := by
      rw [List.getElem?_map, List.getElem?_reverse (by omega), show c.length - 1 - p = i by omega, List.getElem?_eq_getElem hi]; rfl
    obtain ⟨b, o, ks, rfl, hSb, ⟨x0, x1, rfl, hx⟩, hcell⟩ := Rep.Sl.at_ hsl' hget
    obtain ⟨sx, Ax, nx, cx, rfl, rfl⟩ := hx.shape
    have f0 : w.cell? ⟨b, o + p * 2, none⟩ = some (.string sx) := hcell 0 _ rfl
    have f1 : w.cell? ⟨b, o + p * 2 + 1, none⟩ = some (.slice Ax nx cx) := hcell 1 _ rfl
    have hbl := hS b hSb
    have hbl1 : b < w.heap.size + 1 := by omega
    have q0 : (n1 : Int) - 1 - (i : Int) = (p : Int) := by omega
    have q1 : (0 : Int) ≤ (p : Int) := by omega
    have q2 : (p : Int) < (n1 : Int) := by omega
    have q3 : (n1 : Int) ≤ 1000000 := by omega
    have q4 : (i : Int) ≤ 1000000 := by omega
    have hty2 : Tv.typ c (.var i) = some c[i] := by simp [Tv.typ, hi]
    rw [hty2]
    clear h hnm hok hd hln hm hsl' hcell hl2 hm2 hnone hget hty2 hty
    have HS := Lib.hid hS
    have HX := Lib.hid hx
    have HP := Lib.hid hp
    have HN1 := Lib.hid hn1
    clear hS hx hp hn1
    go_enter Tryd.func27, Tryd.ntmps27
    go_wp2_with fail
    refine bodyPost_ret (v := .tuple #[.agg #[.string sx, .slice Ax nx cx], .bool true]) (by simp [results, Tryd.results27, go_sem]) rfl ?_
    exact ⟨⟨_, _, _, _, rfl, (HX.out.keep (fun b hb => heap_old (by have := HS.out b hb; simp; omega) (heap_old (HS.out b hb) rfl))).mono (fun b hb => Or.inl hb), rfl, rfl⟩, by go_grown⟩
  | abs s b ih =>
    intro c cs u w S hok hd h hc hS
    obtain ⟨u0, u1, vs, rfl, hnm, hty, hl⟩ := Tm.open_ h
    obtain ⟨sa, Aa, na, ca, rfl, rfl⟩ := hty.shape
    obtain ⟨A, n, cp, rfl, hln, hm, hA⟩ := hl
    simp only [List.length_singleton] at hln
    subst hln
    obtain ⟨bb, oo, kc, rfl, hSb, hkr, hkc⟩ := Tm.kid (l := [b.tm]) (c := cp) (k := 0) ⟨_, _, _, rfl, rfl, hm, hA⟩ rfl
    obtain ⟨s1, A1, n1, c1, B1, m1, d1, rfl, _, _⟩ := Tm.shape hkr
    have hkc' : ∀ (j : Nat) (u : Value), _ → w.cell? ⟨bb, oo + j, none⟩ = some u := fun j u hj => by simpa using hkc j u hj
    obtain ⟨hsl, Ac, nc, kcp, rfl, hnk, hnone⟩ := hc
    obtain ⟨olds, hall, holen, hln2, hocells⟩ := hsl.olds (fun h => (hnone h).1)
    have hcn : c.length = nc := by simpa using hln2
    have hbl := hS bb hSb
    simp only [tyRep] at holen
    have hty2 : Tv.typ c (.abs s b) = (Tv.typ (s :: c) b).map (.fn s) := rfl
    rw [hty2]
    have hok2 : b.ok (s :: c).length := by simp only [Tv.ok] at hok; exact hok.2
    have hlen2 : (s :: c).length + b.depth ≤ 100000 := by simp only [Tv.depth] at hd; simp; omega
    have HOK2 := Lib.hid hok2
    have HLEN2 := Lib.hid hlen2
    clear hok2 hlen2
    have HIH := Lib.hid ih
    have HCN := Lib.hid hcn
    have HKC := Lib.hid hkc'
    have q1 : (0 : Int) ≤ (nc : Int) := by omega
    have q2 : (nc : Int) ≤ (kcp : Int) := by omega
    simp only [Tv.depth] at hd
    clear h hnm hkc hkc' hsl hA ih hcn hln2 hty2
    have HS := Lib.hid hS
    have HTY := Lib.hid hty
    have HOK := Lib.hid hok
    have HKR := Lib.hid hkr
    have HALL := Lib.hid hall
    have HOCELLS := Lib.hid hocells
    have HNONE := Lib.hid hnone
    clear hS hty hok hkr hall hocells hnone
    obtain ⟨i0, hi0, hz0, hz1, hz2⟩ := info_parts infoSimple
    go_enter Tryd.func27, Tryd.ntmps27
    go_wp2_with fail
    go_cut [6] (fun s6 wx => Ctx wx (fun b => S b ∨ (w.heap.size + 2 ≤ b ∧ b < wx.heap.size)) s6 (s :: c) ∧ Below (w.heap.size + 2) ((w.alloc (.cells #[.int .i64 3, .string bNil, .int .i64 0, .string sa, .slice Aa na ca, .slice (some ⟨bb, oo, none⟩) 1 cp] 27)).alloc (.cells #[.string ⟨#[]⟩, .slice none 0 0] 24)) wx)
    case first =>
      go_region_law ((refine step_append_grows (by rfl) (.tmp 37) (.tmp 40) _ (by rfl) 24 i0 _ 2 40 Tryd.underlying22 hi0 hz0 hz1 hz2 rfl (by omega) Ac nc nc olds (by rfl) (fun h => ⟨(HNONE.out h).1, (HNONE.out h).1⟩) holen ?ho ⟨w.heap.size + 1 + 1, 0, none⟩ 1 1 [.string sa, .slice Aa na ca] (by rfl) (by rfl) ?hn (by simp [Value.oneCell']) (by omega) (by have := HCN.out; unfold maxLen; omega) (by have := HCN.out; omega) ?hK; (case ho => exact (fun a ha j u hj => (World.cell?_of_block (heap_old (by have hlt := World.block_lt_of_cell? w _ (HOCELLS.out a ha j u hj); simp; omega) (heap_old (by have hlt := World.block_lt_of_cell? w _ (HOCELLS.out a ha j u hj); simp; omega) (heap_old (World.block_lt_of_cell? w _ (HOCELLS.out a ha j u hj)) rfl)))).trans (HOCELLS.out a ha j u hj))); (case hn => exact World.news_of_block (cs := #[.string sa, .slice Aa na ca]) (t := 24) (fr := (0, 0)) (heap_at (by simp))); intro v' w3 hown3 hgrow))
      all_goals
        go_wp2_with fail
        go_meet
        refine ⟨?_, ((Below.refl _ _).alloc (by simp) _).drew.grown hgrow (by simp) (fun k hk => by cases hk)⟩
        exact (Ctx.push (w := w) HALL.out ⟨_, _, rfl, HTY.out⟩ HCN.out hown3 hgrow (fun k hk => heap_old (by have := HS.out k hk; simp; omega) (heap_old (by have := HS.out k hk; simp; omega) (heap_old (HS.out k hk) rfl))) (fun k hk => by have := HS.out k hk; simp; omega) (by have := HCN.out; unfold maxLen; omega)).keep (fun _ _ => rfl) (fun b hb => hb.imp_right (fun h => ⟨by have := h.1; simp at this; omega, h.2⟩))
    case rest =>
      obtain ⟨hcx, hbx⟩ := hcut
      rename World => wx
      have h0 := (hbx.block w.heap.size (by omega)).trans (heap_old (by simp) (heap_at rfl))
      have h1 := (hbx.block (w.heap.size + 1) (by omega)).trans (heap_at (by simp))
      have hsz : w.heap.size + 2 ≤ wx.heap.size := by have := hbx.size; simpa using this
      have hkS : ∀ k, S k → wx.heap[k]? = w.heap[k]? := fun k hk => (hbx.block k (by have := HS.out k hk; omega)).trans (heap_old (by have := HS.out k hk; simp; omega) (heap_old (HS.out k hk) rfl))
      have hB : Below w.heap.size w wx := (show Below w.heap.size w _ by go_grown).trans (hbx.mono (by omega))
      have hk := hkS bb hSb
      have e0 : wx.cell? ⟨bb, oo, none⟩ = _ := (cell_keep hk _).trans (HKC.out 0 _ rfl)
      have e1 : wx.cell? ⟨bb, oo + 1, none⟩ = _ := (cell_keep hk _).trans (HKC.out 1 _ rfl)
      have e2 : wx.cell? ⟨bb, oo + 2, none⟩ = _ := (cell_keep hk _).trans (HKC.out 2 _ rfl)
      have e3 : wx.cell? ⟨bb, oo + 3, none⟩ = _ := (cell_keep hk _).trans (HKC.out 3 _ rfl)
      have e4 : wx.cell? ⟨bb, oo + 4, none⟩ = _ := (cell_keep hk _).trans (HKC.out 4 _ rfl)
      have e5 : wx.cell? ⟨bb, oo + 5, none⟩ = _ := (cell_keep hk _).trans (HKC.out 5 _ rfl)
      have HCX := Lib.hid hcx
      have HBX := Lib.hid hbx
      have HKS := Lib.hid hkS
      have HB := Lib.hid hB
      have HK := Lib.hid hk
      clear hcx hbx hkS hB hk
      have h0_0 := cv0 h0
      have h0_1 := cv1 h0
      have h0_2 := cv2 h0
      have h0_3 := cv3 h0
      have h0_4 := cv4 h0
      have h0_5 := cv5 h0
      have h0_l := lt_heap h0
      have H0 := Lib.hid h0
      clear h0
      have h1_0 := cv0 h1
      have h1_1 := cv1 h1
      have h1_f0 := free_heap h1 0
      have h1_f1 := free_heap h1 1
      have h1_l := lt_heap h1
      have H1 := Lib.hid h1
      clear h1
      go_wp2_with fail
      (with_reducible refine (HIH.out (s :: c) [.int .i64 b.tm.lab.kind, .string b.tm.lab.nm, .int .i64 b.tm.lab.ix, .string s1, .slice A1 n1 c1, .slice B1 m1 d1] u6 wx (fun k => S k ∨ (w.heap.size + 2 ≤ k ∧ k < wx.heap.size)) HOK2.out HLEN2.out (tmRep.keep HKR.out HKS.out (fun _ h => Or.inl h)) HCX.out (fun k hk => by rcases hk with hk | hk; have := HS.out k hk; omega; exact hk.2)).mono ?_)
      rintro e w4 ⟨⟨v0, v1, ok, T, rfl, hT, hr⟩, hw4⟩
      obtain ⟨sT, AT, nT, cT, rfl, rfl⟩ := hT.shape
      have h0 := (hw4.block _ h0_l).trans H0.out
      have h1 := (hw4.block _ h1_l).trans H1.out
      have z4 : wx.heap.size ≤ w4.heap.size := hw4.size
      have hB4 := HB.out.trans (hw4.mono (by omega))
      have hty4 : Ty.In w4 S s.ty (.string sa) (.slice Aa na ca) := HTY.out.keep (fun k hk => (hw4.block k (by have := HS.out k hk; omega)).trans (HKS.out k hk))
      clear h0_0 h0_1 h0_2 h0_3 h0_4 h0_5 h0_l h1_0 h1_1 h1_f0 h1_f1 h1_l e0 e1 e2 e3 e4 e5
      have HT := Lib.hid hT
      have HR := Lib.hid hr
      have HW4 := Lib.hid hw4
      have HB4 := Lib.hid hB4
      have HTY4 := Lib.hid hty4
      clear hT hr hw4 hB4 hty4
      have h0_0 := cv0 h0
      have h0_1 := cv1 h0
      have h0_2 := cv2 h0
      have h0_3 := cv3 h0
      have h0_4 := cv4 h0
      have h0_5 := cv5 h0
      have h0_l := lt_heap h0
      have H0 := Lib.hid h0
      clear h0
      have h1_0 := cv0 h1
      have h1_1 := cv1 h1
      have h1_f0 := free_heap h1 0
      have h1_f1 := free_heap h1 1
      have h1_l := lt_heap h1
      have H1 := Lib.hid h1
      clear h1
      go_wp2_with fail
      refine bodyPost_ret (v := .tuple #[.agg #[.string ⟨#[]⟩, .slice (some ⟨w4.heap.size + 1, 0, none⟩) 2 2], .bool ok]) (by simp [results, Tryd.results27, go_sem, h1_0, h1_1, h1_l, h0_l]) rfl ?_
      have hlow : ∀ k, k < w4.heap.size → k ≠ w.heap.size + 1 → ((((w4.setCell ⟨w.heap.size + 1, 0, none⟩ (.string ⟨#[]⟩)).setCell ⟨w.heap.size + 1, 1, none⟩ (.slice (some ⟨w4.heap.size + 1, 0, none⟩) 2 2)).alloc (.cells #[.string sT, .slice AT nT cT] 24)).alloc (.cells #[.string sa, .slice Aa na ca, .string sT, .slice AT nT cT] 24)).heap[k]? = w4.heap[k]? :=
        fun k h1 h2 => heap_old (by simp [size_set]; omega) (heap_old (by simp [size_set]; omega) (heap_far _ h2 (heap_far _ h2 rfl)))
      refine ⟨⟨_, _, ok, .mk bNil [s.ty, T], rfl, ?_, ?_⟩, (((HB4.out.setCell (by simp) _).setCell (by simp) _).alloc (by simp [size_set]; omega) _).alloc (by simp [size_set]; omega) _⟩
      · refine Ty.In.mk_ (by decide +kernel) rfl (by simp [maxLen]) fun _ => ⟨_, _, rfl, Or.inr ⟨by omega, by simp [size_set]⟩, Ty.Ins2 (heap_at (by simp [size_set])) ?_ ?_⟩
        · exact Ty.In_keep (fun k hk => hlow k (by have := HS.out k hk; omega) (by have := HS.out k hk; omega)) (fun k hk => Or.inl hk) _ _ _ HTY4.out
        · refine Ty.In_keep (fun k hk => ?_) (fun k hk => ?_) _ _ _ HT.out
          · rcases hk with (hk | hk) | hk
            · have := HS.out k hk; exact hlow k (by omega) (by omega)
            · exact hlow k (by omega) (by omega)
            · exact hlow k (by omega) (by omega)
          · rcases hk with (hk | hk) | hk
            · exact Or.inl hk
            · exact Or.inr ⟨by omega, by simp [size_set]; omega⟩
            · exact Or.inr ⟨by omega, by simp [size_set]; omega⟩
      · have hr := HR.out
        cases ht : Tv.typ (s :: c) b with
        | none => rw [ht] at hr; exact hr
        | some tt => rw [ht] at hr; obtain ⟨rfl, rfl⟩ := hr; exact ⟨rfl, rfl⟩
  | app f x ihf ihx =>
    intro c cs u w S hok hd h hc hS
    obtain ⟨u0, u1, vs, rfl, hnm, hty, hl⟩ := Tm.open_ h
    obtain ⟨sa, Aa, na, ca, rfl, rfl⟩ := hty.shape
    obtain ⟨A, n, cp, rfl, hln, hm, hA⟩ := hl
    simp only [List.length_cons, List.length_nil] at hln
    subst hln
    obtain ⟨b, o, kc1, rfl, hSb, hkr1, hkc1⟩ := Tm.kid (l := [f.tm, x.tm]) (c := cp) (k := 0) ⟨_, _, _, rfl, rfl, hm, hA⟩ rfl
    obtain ⟨b', o', kc2, hbo, _, hkr2, hkc2⟩ := Tm.kid (l := [f.tm, x.tm]) (c := cp) (k := 1) ⟨_, _, _, rfl, rfl, hm, hA⟩ rfl
    obtain ⟨rfl, rfl⟩ : b = b' ∧ o = o' := by simpa using hbo
    obtain ⟨s1, A1, n1, c1, B1, m1, d1, rfl, _, _⟩ := Tm.shape hkr1
    obtain ⟨s2, A2, n2, c2, B2, m2, d2, rfl, _, _⟩ := Tm.shape hkr2
    have hkc1' : ∀ (j : Nat) (u : Value), _ → w.cell? ⟨b, o + j, none⟩ = some u := fun j u hj => by simpa using hkc1 j u hj
    have hkc2' : ∀ (j : Nat) (u : Value), _ → w.cell? ⟨b, o + 6 + j, none⟩ = some u := fun j u hj => by simpa using hkc2 j u hj
    obtain ⟨Ac, nc, kcp, rfl, hnk, hnone⟩ := id hc.form
    have hbl := hS b hSb
    have hok2 : f.ok c.length ∧ x.ok c.length := by simp only [Tv.ok] at hok; exact hok
    have hlen1 : c.length + f.depth ≤ 100000 := by simp only [Tv.depth] at hd; omega
    have hlen2 : c.length + x.depth ≤ 100000 := by simp only [Tv.depth] at hd; omega
    have HKC1 := Lib.hid hkc1'
    have HKC2 := Lib.hid hkc2'
    clear h hnm hkc1 hkc1' hkc2 hkc2' hA hm hty hd hok
    have HS := Lib.hid hS
    have HKR1 := Lib.hid hkr1
    have HKR2 := Lib.hid hkr2
    have HC := Lib.hid hc
    have HOK2 := Lib.hid hok2
    have HLEN1 := Lib.hid hlen1
    have HLEN2 := Lib.hid hlen2
    have HBO := Lib.hid hbo
    have HNONE := Lib.hid hnone
    have HNK := Lib.hid hnk
    have IHF := Lib.hid ihf
    have IHX := Lib.hid ihx
    clear hS hkr1 hkr2 hc hok2 hlen1 hlen2 hbo hnone hnk ihf ihx
    have hold : ∀ (p q : Obj) k, S k → ((w.alloc p).alloc q).heap[k]? = w.heap[k]? := fun p q k hk => heap_old (by have := HS.out k hk; simp; omega) (heap_old (HS.out k hk) rfl)
    have HOLD := Lib.hid hold
    clear hold
    have hbl1 : b < w.heap.size + 1 := by omega
    have e0 : w.cell? ⟨b, o, none⟩ = _ := HKC1.out 0 _ rfl
    have e1 : w.cell? ⟨b, o + 1, none⟩ = _ := HKC1.out 1 _ rfl
    have e2 : w.cell? ⟨b, o + 2, none⟩ = _ := HKC1.out 2 _ rfl
    have e3 : w.cell? ⟨b, o + 3, none⟩ = _ := HKC1.out 3 _ rfl
    have e4 : w.cell? ⟨b, o + 4, none⟩ = _ := HKC1.out 4 _ rfl
    have e5 : w.cell? ⟨b, o + 5, none⟩ = _ := HKC1.out 5 _ rfl
    go_enter Tryd.func27, Tryd.ntmps27
    go_wp2_with fail
    (with_reducible refine (IHF.out c [.int .i64 f.tm.lab.kind, .string f.tm.lab.nm, .int .i64 f.tm.lab.ix, .string s1, .slice A1 n1 c1, .slice B1 m1 d1] (.slice Ac nc kcp) _ S HOK2.out.1 HLEN1.out (tmRep.keep HKR1.out (HOLD.out _ _) (fun _ h => h)) (HC.out.keep (HOLD.out _ _) (fun _ h => h)) (fun k hk => by have := HS.out k hk; simp; omega)).mono ?_)
    rintro e w1 ⟨⟨v0, v1, ok1, T1, rfl, hT1, hr1⟩, hw1⟩
    obtain ⟨sp, Ap, np, cp1, rfl, rfl⟩ := hT1.shape
    have z1 : w.heap.size + 2 ≤ w1.heap.size := by have := hw1.size; simpa using this
    have h0 := (hw1.block w.heap.size (by simp <;> omega)).trans (heap_old (by simp) (heap_at rfl))
    have h1 := (hw1.block (w.heap.size + 1) (by simp)).trans (heap_at (by simp))
    have hkS1 : ∀ k, S k → w1.heap[k]? = w.heap[k]? := fun k hk => (hw1.block k (by have := HS.out k hk; simp; omega)).trans (HOLD.out _ _ k hk)
    have hB1 : Below w.heap.size w w1 := (show Below w.heap.size w _ by go_grown).trans (hw1.mono (by simp; omega))
    have hk := hkS1 b hSb
    have hbl2 : b < w1.heap.size := by omega
    clear e0 e1 e2 e3 e4 e5
    have e0 : w1.cell? ⟨b, o + 6, none⟩ = _ := (cell_keep hk _).trans (HKC2.out 0 _ rfl)
    have e1 : w1.cell? ⟨b, o + 6 + 1, none⟩ = _ := (cell_keep hk _).trans (HKC2.out 1 _ rfl)
    have e2 : w1.cell? ⟨b, o + 6 + 2, none⟩ = _ := (cell_keep hk _).trans (HKC2.out 2 _ rfl)
    have e3 : w1.cell? ⟨b, o + 6 + 3, none⟩ = _ := (cell_keep hk _).trans (HKC2.out 3 _ rfl)
    have e4 : w1.cell? ⟨b, o + 6 + 4, none⟩ = _ := (cell_keep hk _).trans (HKC2.out 4 _ rfl)
    have e5 : w1.cell? ⟨b, o + 6 + 5, none⟩ = _ := (cell_keep hk _).trans (HKC2.out 5 _ rfl)
    have HT1 := Lib.hid hT1
    have HR1 := Lib.hid hr1
    have HW1 := Lib.hid hw1
    have HKS1 := Lib.hid hkS1
    have HB1 := Lib.hid hB1
    have HK := Lib.hid hk
    clear hT1 hr1 hw1 hkS1 hB1 hk
    have h0_0 := cv0 h0
    have h0_1 := cv1 h0
    have h0_2 := cv2 h0
    have h0_3 := cv3 h0
    have h0_4 := cv4 h0
    have h0_5 := cv5 h0
    have h0_l := lt_heap h0
    have H0 := Lib.hid h0
    clear h0
    have h1_0 := cv0 h1
    have h1_1 := cv1 h1
    have h1_f0 := free_heap h1 0
    have h1_f1 := free_heap h1 1
    have h1_l := lt_heap h1
    have H1 := Lib.hid h1
    clear h1
    have hold1 : ∀ (p : Obj) k, S k → (w1.alloc p).heap[k]? = w.heap[k]? := fun p k hk => (heap_old (by have := HS.out k hk; omega) rfl).trans (HKS1.out k hk)
    have HOLD1 := Lib.hid hold1
    clear hold1
    go_wp2_with fail
    (with_reducible refine (IHX.out c [.int .i64 x.tm.lab.kind, .string x.tm.lab.nm, .int .i64 x.tm.lab.ix, .string s2, .slice A2 n2 c2, .slice B2 m2 d2] (.slice Ac nc kcp) _ S HOK2.out.2 HLEN2.out (tmRep.keep HKR2.out (HOLD1.out _) (fun _ h => h)) (HC.out.keep (HOLD1.out _) (fun _ h => h)) (fun k hk => by have := HS.out k hk; simp; omega)).mono ?_)
    rintro e w2 ⟨⟨v0, v1, ok2, T2, rfl, hT2, hr2⟩, hw2⟩
    obtain ⟨sq, Aq, nq, cq, rfl, rfl⟩ := hT2.shape
    have z2 : w1.heap.size + 1 ≤ w2.heap.size := by have := hw2.size; simpa using this
    have h0 := (hw2.block w.heap.size (by simp; omega)).trans (heap_old h0_l H0.out)
    have h1 := (hw2.block (w.heap.size + 1) (by simp; omega)).trans (heap_old h1_l H1.out)
    have h2 := (hw2.block w1.heap.size (by simp)).trans (heap_at rfl)
    have hB2 : Below w.heap.size w w2 := (HB1.out.alloc (by omega) _).trans (hw2.mono (by simp; omega))
    have hT1' : Ty.In w2 (fun k => S k ∨ (w.heap.size + 2 ≤ k ∧ k < w2.heap.size)) T1 (.string sp) (.slice Ap np cp1) := by
      refine Ty.In_keep (fun k hk => ?_) (fun k hk => ?_) _ _ _ HT1.out
      · rcases hk with hk | ⟨hk, hk'⟩
        · have := HS.out k hk; exact (hw2.block k (by simp; omega)).trans (heap_old (by omega) rfl)
        · exact (hw2.block k (by simp; omega)).trans (heap_old hk' rfl)
      · rcases hk with hk | ⟨hk, hk'⟩
        · exact Or.inl hk
        · simp at hk; exact Or.inr ⟨hk, by omega⟩
    have hT2' : Ty.In w2 (fun k => S k ∨ (w.heap.size + 2 ≤ k ∧ k < w2.heap.size)) T2 (.string sq) (.slice Aq nq cq) := by
      refine Ty.In_mono_ hT2 (fun k hk => ?_)
      rcases hk with hk | ⟨hk, hk'⟩
      · exact Or.inl hk
      · simp at hk; exact Or.inr ⟨by omega, hk'⟩
    have hlow2 : ∀ k, S k ∨ (w.heap.size + 2 ≤ k ∧ k < w2.heap.size) → k < w2.heap.size := fun k hk => by rcases hk with hk | hk; have := HS.out k hk; omega; exact hk.2
    clear h0_0 h0_1 h0_2 h0_3 h0_4 h0_5 h0_l h1_0 h1_1 h1_f0 h1_f1 h1_l e0 e1 e2 e3 e4 e5 hT2 hw2
    have HR1 := HR1
    have hr1 := HR1.out
    have HB2 := Lib.hid hB2
    have HT1P := Lib.hid hT1'
    have HT2P := Lib.hid hT2'
    have HLOW2 := Lib.hid hlow2
    clear hB2 hT1' hT2' hlow2
    have h0_0 := cv0 h0
    have h0_1 := cv1 h0
    have h0_2 := cv2 h0
    have h0_3 := cv3 h0
    have h0_4 := cv4 h0
    have h0_5 := cv5 h0
    have h0_l := lt_heap h0
    have H0 := Lib.hid h0
    clear h0
    have h1_0 := cv0 h1
    have h1_1 := cv1 h1
    have h1_f0 := free_heap h1 0
    have h1_f1 := free_heap h1 1
    have h1_l := lt_heap h1
    have H1 := Lib.hid h1
    clear h1
    have h2_0 := cv0 h2
    have h2_1 := cv1 h2
    have h2_l := lt_heap h2
    have H2 := Lib.hid h2
    clear h2
    have hzero : ∀ w', Below w.heap.size w w' → TypRes none w w' S (.returned (.tuple #[.agg #[.string ⟨#[]⟩, .slice none 0 0], .bool false])) ∧ Below w.heap.size w w' := fun w' hb => ⟨⟨_, _, false, noTy, rfl, Ty.In.mk_ (by decide +kernel) rfl (by omega) (by omega), rfl⟩, hb⟩
    have HZERO := Lib.hid hzero
    clear hzero
    have zero := fun (h : Tv.typ c (.app f x) = none) (w' : World) (hb : Below w.heap.size w w') => (show TypRes (Tv.typ c (.app f x)) w w' S (.returned (.tuple #[.agg #[.string ⟨#[]⟩, .slice none 0 0], .bool false])) ∧ Below w.heap.size w w' by rw [h]; exact HZERO.out w' hb)
    have ZERO := Lib.hid zero
    clear zero
    have hr2 := hr2
    by_cases hf : (Tv.typ c f).isSome = true
    case neg =>
      have hf' : Tv.typ c f = none := by simpa using hf
      have HTY := Lib.hid (show Tv.typ c (.app f x) = none by simp [Tv.typ, hf'])
      rw [hf'] at hr1
      obtain rfl := hr1
      clear hr2 hf hf'
      go_wp2_with fail
      go_region
      all_goals go_wp2_with fail
      all_goals
        refine bodyPost_ret (v := .tuple #[.agg #[.string ⟨#[]⟩, .slice none 0 0], .bool false]) (by simp [results, Tryd.results27, go_sem, h1_0, h1_1, h1_l, h0_l]) rfl ?_
        exact ZERO.out HTY.out _ ((((HB2.out.setCell (by simp) _).setCell (by simp) _).alloc (by simp [size_set]; omega) _).drew)
    by_cases hx : (Tv.typ c x).isSome = true
    case neg =>
      have hx' : Tv.typ c x = none := by simpa using hx
      obtain ⟨sf, hf'⟩ := Option.isSome_iff_exists.1 hf
      have HTY := Lib.hid (show Tv.typ c (.app f x) = none by simp [Tv.typ, hf', hx'])
      rw [hf'] at hr1
      obtain ⟨rfl, rfl⟩ := hr1
      rw [hx'] at hr2
      obtain rfl := hr2
      clear hf hf' hx hx'
      go_wp2_with fail
      go_region
      all_goals go_wp2_with fail
      all_goals
        refine bodyPost_ret (v := .tuple #[.agg #[.string ⟨#[]⟩, .slice none 0 0], .bool false]) (by simp [results, Tryd.results27, go_sem, h1_0, h1_1, h1_l, h0_l]) rfl ?_
        exact ZERO.out HTY.out _ ((((HB2.out.setCell (by simp) _).setCell (by simp) _).alloc (by simp [size_set]; omega) _).drew)
    obtain ⟨sf, hf'⟩ := Option.isSome_iff_exists.1 hf
    obtain ⟨sx, hx'⟩ := Option.isSome_iff_exists.1 hx
    rw [hf'] at hr1
    obtain ⟨rfl, rfl⟩ := hr1
    rw [hx'] at hr2
    obtain ⟨rfl, rfl⟩ := hr2
    clear hf hx
    by_cases hfn : ∃ a bb, sf = .fn a bb
    case neg =>
      have HTY := Lib.hid (show Tv.typ c (.app f x) = none by
        cases sf with
        | fn a bb => exact absurd ⟨a, bb, rfl⟩ hfn
        | e => simp [Tv.typ, hf', hx']
        | t => simp [Tv.typ, hf', hx'])
      have hlen : np = 0 := by
        cases sf with
        | fn a bb => exact absurd ⟨a, bb, rfl⟩ hfn
        | e => obtain ⟨_, _, _, h⟩ := Sy.In_e HT1P.out; simp at h; exact h.2.1
        | t => obtain ⟨_, _, _, h⟩ := Sy.In_t HT1P.out; simp at h; exact h.2.1
      subst hlen
      clear hf' hx' hfn
      go_wp2_with fail
      go_region
      all_goals go_wp2_with fail
      all_goals
        refine bodyPost_ret (v := .tuple #[.agg #[.string ⟨#[]⟩, .slice none 0 0], .bool false]) (by simp [results, Tryd.results27, go_sem, h1_0, h1_1, h1_l, h0_l]) rfl ?_
        exact ZERO.out HTY.out _ ((((HB2.out.setCell (by simp) _).setCell (by simp) _).alloc (by simp [size_set]; omega) _).drew)
    obtain ⟨sa', sb', rfl⟩ := hfn
    obtain ⟨bl, oo, cc, x0, x1, y0, y1, e0, e1, hSbl, f0, f1, f2, f3, ha, hb'⟩ := Sy.In_fn HT1P.out
    simp only [Value.string.injEq, Value.slice.injEq] at e0 e1
    obtain rfl := e0
    obtain ⟨rfl, rfl, rfl⟩ := e1
    obtain ⟨sg, Ag, ng, cg, rfl, rfl⟩ := ha.shape
    obtain ⟨sh, Ah, nh, ch, rfl, rfl⟩ := hb'.shape
    have hbll := HLOW2.out bl hSbl
    have hq := fun (o : Obj) => sameTy_any _ sa'.ty sx.ty _ _ _ _ (w2.alloc o).drew (fun k => S k ∨ (w.heap.size + 2 ≤ k ∧ k < w2.heap.size)) (Nat.le_refl _) (Ty.In.drew (Ty.In_keep (fun k hk => heap_old (HLOW2.out k hk) rfl) (fun _ h => h) _ _ _ ha)) (Ty.In.drew (Ty.In_keep (fun k hk => heap_old (HLOW2.out k hk) rfl) (fun _ h => h) _ _ _ HT2P.out)) (fun k hk => by have := HLOW2.out k hk; simp; omega)
    have hbne1 : bl ≠ w.heap.size + 1 := by rcases hSbl with h | h; have := HS.out _ h; omega; omega
    have hne3 : w1.heap.size ≠ w.heap.size + 1 := by omega
    by_cases hab : sa' = sx
    case neg =>
      have HTY := Lib.hid (show Tv.typ c (.app f x) = none by simp [Tv.typ, hf', hx', hab])
      have hbq : sa'.ty.beq sx.ty = false := by
        cases h : sa'.ty.beq sx.ty
        · rfl
        · exact absurd (Sy.ty_inj _ _ (Ty.eq_of_beq _ _ h)) hab
      rw [hbq] at hq
      clear hf' hx' hab hbq ha hb'
      have HQ := Lib.hid hq
      clear hq
      go_wp2_with fail
      go_region_held3 (fun w' => w'.cell? ⟨w1.heap.size, 1, none⟩ = some (.slice (some ⟨bl, oo, none⟩) 2 cp1) ∧ w'.cell? ⟨bl, oo, none⟩ = some (.string sg) ∧ w'.cell? ⟨bl, oo + 1, none⟩ = some (.slice Ag ng cg) ∧ w'.cell? ⟨w2.heap.size, 0, none⟩ = some (.string sq) ∧ w'.cell? ⟨w2.heap.size, 1, none⟩ = some (.slice Aq nq cq))
        ((first | (go_keep; done) | (go_split_ands; (repeat' apply And.intro) <;> (refine (kc _ _ (by omega)).trans ?_; assumption))))
        (((with_reducible refine (HQ.out _).mono ?_); rintro e w3 ⟨rfl, hw3⟩; have kc : ∀ k q, k < w2.heap.size + 1 → w3.cell? ⟨k, q, none⟩ = _ := (fun k q h => hw3.cell (p := ⟨k, q, none⟩) (by simp; omega)); have h1' := (hw3.block (w.heap.size + 1) (by simp; omega)).trans (heap_old (w := w2) h1_l H1.out); have g1_0 := cv0 h1'; have g1_1 := cv1 h1'; have g1_f0 := free_heap h1' 0; have g1_f1 := free_heap h1' 1; have g1_l := lt_heap h1'; have HW3 := Lib.hid hw3; clear hw3 h1'))
      go_wp2_with fail
      refine bodyPost_ret (v := .tuple #[.agg #[.string ⟨#[]⟩, .slice none 0 0], .bool false]) (by simp [results, Tryd.results27, go_sem, g1_0, g1_1, g1_l, h0_l]) rfl ?_
      exact ZERO.out HTY.out _ ((((HB2.out.alloc (by omega) _).drew.trans (HW3.out.mono (by simp; omega))).setCell (by simp) _).setCell (by simp) _)
    subst hab
    have HTY := Lib.hid (show Tv.typ c (.app f x) = some sb' by simp [Tv.typ, hf', hx'])
    rw [Ty.beq_self] at hq
    have HSB := Lib.hid hb'
    clear hf' hx' ha hb'
    have HQ := Lib.hid hq
    clear hq
    go_wp2_with fail
    go_region_held3 (fun w' => w'.cell? ⟨w1.heap.size, 1, none⟩ = some (.slice (some ⟨bl, oo, none⟩) 2 cp1) ∧ w'.cell? ⟨bl, oo, none⟩ = some (.string sg) ∧ w'.cell? ⟨bl, oo + 1, none⟩ = some (.slice Ag ng cg) ∧ w'.cell? ⟨w2.heap.size, 0, none⟩ = some (.string sq) ∧ w'.cell? ⟨w2.heap.size, 1, none⟩ = some (.slice Aq nq cq))
      ((first | (go_keep; done) | (go_split_ands; (repeat' apply And.intro) <;> (refine (kc _ _ (by omega)).trans ?_; assumption))))
      (((with_reducible refine (HQ.out _).mono ?_); rintro e w3 ⟨rfl, hw3⟩; have kc : ∀ k q, k < w2.heap.size + 1 → w3.cell? ⟨k, q, none⟩ = _ := (fun k q h => hw3.cell (p := ⟨k, q, none⟩) (by simp; omega)); have h1' := (hw3.block (w.heap.size + 1) (by simp; omega)).trans (heap_old (w := w2) h1_l H1.out); have g1_0 := cv0 h1'; have g1_1 := cv1 h1'; have g1_f0 := free_heap h1' 0; have g1_f1 := free_heap h1' 1; have g1_l := lt_heap h1'; have k2 := (cell_keep ((hw3.block bl (by simp; omega)).trans (heap_old (w := w2) hbll rfl)) (oo + 2)).trans f2; have k3 := (cell_keep ((hw3.block bl (by simp; omega)).trans (heap_old (w := w2) hbll rfl)) (oo + 2 + 1)).trans f3; have k4 := (cell_keep ((hw3.block w1.heap.size (by simp; omega)).trans (heap_old (w := w2) (by omega) rfl)) 1).trans h2_1; have HW3 := Lib.hid hw3; clear hw3 h1'))
    go_wp2_with fail
    refine bodyPost_ret (v := .tuple #[.agg #[.string sh, .slice Ah nh ch], .bool true]) (by simp [results, Tryd.results27, go_sem, g1_0, g1_1, g1_l, h0_l]) rfl ?_
    rw [HTY.out]
    refine ⟨⟨_, _, true, sb'.ty, rfl, ?_, rfl, rfl⟩, (((HB2.out.alloc (by omega) _).drew.trans (HW3.out.mono (by simp; omega))).setCell (by simp) _).setCell (by simp) _⟩
    have z3 : w2.heap.size + 1 ≤ w3.heap.size := by have := HW3.out.size; simpa using this
    refine Ty.In_keep (fun k hk => ?_) (fun k hk => ?_) _ _ _ HSB.out
    · have hk1 := HLOW2.out k hk
      have hk2 : k ≠ w.heap.size + 1 := by rcases hk with h | h; have := HS.out _ h; omega; omega
      exact heap_far _ hk2 (heap_far _ hk2 ((HW3.out.block k (by simp; omega)).trans (heap_old hk1 rfl)))
    · have hk1 := HLOW2.out k hk
      rcases hk with h | h
      · exact Or.inl h
      · exact Or.inr ⟨by omega, by simp only [size_set]; omega⟩

end Go.Proofs.YtnoceodmnjhljaaDoor
