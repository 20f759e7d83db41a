/-
  The reference's ReadType: the walk.
-/
import Derived.Test.YtnoceodmnjhljaaDoorProg
import Derived.Test.YtnoceodmnjhljaaDoorReadF
import Derived.Test.YtnoceodmnjhljaaDoorFrames
import Derived.Test.YtnoceodmnjhljaaDoorTree
import Derived.Test.YtnoceodmnjhljaaDoorClone
import Derived.Deep.RegionLaw
import Derived.Deep.RegionHeldLaw
import Derived.Deep.DeepCutAuto
import Derived.Laws.Strings2
namespace Go.Proofs.YtnoceodmnjhljaaDoor
open Go Go.RowKit
set_option linter.unusedSimpArgs false
set_option linter.unusedVariables false

/-- What ReadType leaves. -/
def RtAt (w : World) (res : Rt) (e : Ending) (w' : World) : Prop :=
  match res with
  | .bad c j => e = .returned (.tuple #[.agg #[.string ⟨#[]⟩, .slice none 0 0], .int .i64 j, .agg #[.int .i64 c, .int .i64 j]]) ∧ Below w.heap.size w w'
  | .ok s j => ∃ v0 v1, e = .returned (.tuple #[.agg #[v0, v1], .int .i64 j, .agg #[.int .i64 0, .int .i64 0]]) ∧ s.ty.In w' (Fresh w w') v0 v1 ∧ Below w.heap.size w w'

theorem extract_one {x : ByteArray} {i : Nat} (hi : i < x.size) {c : UInt8} (h : x[i]'hi = c) : x.extract i (i + 1) = ⟨#[c]⟩ := by
  obtain ⟨⟨l⟩⟩ := x
  have hlt : i < l.length := hi
  have hc : l[i] = c := h
  have he := ByteArray.extract_mk l i (i + 1)
  rw [show i + 1 - i = 1 by omega, List.drop_eq_getElem_cons hlt, List.take_succ_cons, List.take_zero, hc] at he
  exact he
theorem extract_size {x : ByteArray} {i : Nat} (hi : i < x.size) : (x.extract i (i + 1)).size ≤ 1 := by
  rw [extract_one hi rfl]; exact Nat.le_refl 1

theorem snoc_at0 {xs : List Value} {a b : Value} {n : Nat} (h : xs.length = n) : (xs ++ [a, b])[n]? = some a := by subst h; simp
theorem snoc_at1 {xs : List Value} {a b : Value} {n : Nat} (h : xs.length = n) : (xs ++ [a, b])[n + 1]? = some b := by subst h; simp

/-- Behind 'open[k].Args = append(open[k].Args, done)': the stack's row (block g), the frame's own row (block h), what stayed. -/
structure Apd (wr wx : World) (base g k capg : Nat) (old : Value) (lo m : Nat) (xs pre : List Value) (s0 s1 : Value) (h cap D : Nat) : Prop where
  st : wx.ownsRow base 24 2 (.slice (some ⟨g, 0, none⟩) (k + 1) capg) (k + 1) (pre ++ [.string ⟨#[]⟩, .slice (some ⟨h, 0, none⟩) (m + 1) cap])
  row : wx.ownsRow lo 24 2 (.slice (some ⟨h, 0, none⟩) (m + 1) cap) (m + 1) (xs ++ [s0, s1])
  keep : ∀ b, b < wr.heap.size → b ≠ g → old.ownBlock ≠ some b → wx.heap[b]? = wr.heap[b]?
  ne : h ≠ g
  neD : h ≠ D
  at_ : old.ownBlock = some h ∨ wr.heap.size ≤ h
  lt : h < wx.heap.size
  sz : wr.heap.size ≤ wx.heap.size
  os : wx.os = wr.os
  tape : wx.tape = wr.tape
  output : wx.output = wr.output

theorem ownsRow_set {w : World} {base n g cap i : Nat} {E : TypeId} {size : Nat} {xs : List Value} (h : w.ownsRow base E size (.slice (some ⟨g, 0, none⟩) n cap) n xs) (_hi : i < n * size) (x : Value) : (w.setCell ⟨g, i, none⟩ x).ownsRow base E size (.slice (some ⟨g, 0, none⟩) n cap) n (xs.set i x) := by
  obtain ⟨h1, h2⟩ := h
  refine ⟨by simpa using h1, ?_⟩
  rcases h2 with ⟨h2, _⟩ | ⟨g', cap', cur, e, hg, hh, h3, h4, h5, h6⟩
  · cases h2
  · simp only [Value.slice.injEq, Option.some.injEq, Addr.mk.injEq] at e
    obtain ⟨⟨rfl, _⟩, _, rfl⟩ := e
    refine Or.inr ⟨g, cap, cur.setIfInBounds i x, rfl, hg, heap_set hh i x, h3, h4, by simpa using h5, ?_⟩
    rw [Array.toList_setIfInBounds, List.take_set, h6]
theorem set_snoc0 {xs : List Value} {a b x : Value} {n : Nat} (h : xs.length = n) : (xs ++ [a, b]).set n x = xs ++ [x, b] := by
  subst h; rw [List.set_append_right (h := Nat.le_refl _)]; simp
theorem set_snoc1 {xs : List Value} {a b x : Value} {n : Nat} (h : xs.length = n) : (xs ++ [a, b]).set (n + 1) x = xs ++ [a, x] := by
  subst h; rw [List.set_append_right (h := by omega)]; simp
theorem ownsRow_other {w : World} {base b i : Nat} {E : TypeId} {size n : Nat} {v x : Value} {xs : List Value} (h : w.ownsRow base E size v n xs) (hne : v.ownBlock ≠ some b) : (w.setCell ⟨b, i, none⟩ x).ownsRow base E size v n xs := by
  obtain ⟨h1, h2⟩ := h
  refine ⟨h1, h2.imp_right ?_⟩
  rintro ⟨g', cap', cur, e, hg, hh, r⟩
  refine ⟨g', cap', cur, e, hg, heap_far _ ?_ hh, r⟩
  rintro rfl
  exact hne (by rw [e]; rfl)
theorem ownsRow_grown {w w' : World} {base : Nat} {E : TypeId} {size n : Nat} {v : Value} {xs : List Value} (h : w.ownsRow base E size v n xs) (hk : ∀ b, b < w.heap.size → v.ownBlock = some b → w'.heap[b]? = w.heap[b]?) : w'.ownsRow base E size v n xs := by
  obtain ⟨h1, h2⟩ := h
  refine ⟨h1, h2.imp_right ?_⟩
  rintro ⟨g', cap', cur, e, hg, hh, r⟩
  exact ⟨g', cap', cur, e, hg, (hk g' (lt_heap hh) (by rw [e]; rfl)).trans hh, r⟩

section
variable {wr w3 : World} {base g k capg lo m h cap D : Nat} {old z0 z1 s0 s1 : Value} {xs pre : List Value} {o : Obj}
theorem apd (hst : wr.ownsRow base 24 2 (.slice (some ⟨g, 0, none⟩) (k + 1) capg) (k + 1) (pre ++ [.string ⟨#[]⟩, old])) (hpre : pre.length = k * 2) (hxs : xs.length = m * 2) (hgl : g < wr.heap.size)
    (hown : w3.ownsRow lo 24 2 (.slice (some ⟨h, 0, none⟩) (m + 1) cap) (m + 1) (xs ++ [z0, z1])) (hg : ((wr.alloc o).drew).grownBy w3 old.ownBlock) (hat : old.ownBlock = some h ∨ h = wr.heap.size + 1) (hlt : h < w3.heap.size) (hneg : old.ownBlock ≠ some g) (hneD : h ≠ D) :
    Apd wr (((w3.setCell ⟨h, m * 2, none⟩ s0).setCell ⟨h, m * 2 + 1, none⟩ s1).setCell ⟨g, k * 2 + 1, none⟩ (.slice (some ⟨h, 0, none⟩) (m + 1) cap)) base g k capg old lo m xs pre s0 s1 h cap D ∧
    Apd wr (((w3.setCell ⟨g, k * 2 + 1, none⟩ (.slice (some ⟨h, 0, none⟩) (m + 1) cap)).setCell ⟨h, m * 2, none⟩ s0).setCell ⟨h, m * 2 + 1, none⟩ s1) base g k capg old lo m xs pre s0 s1 h cap D := by
  have hne : h ≠ g := by rintro rfl; rcases hat with e | e; exact hneg e; omega
  have hsz : wr.heap.size + 1 ≤ w3.heap.size := by have := hg.size; simpa using this
  have hk3 : ∀ b, b < wr.heap.size → old.ownBlock ≠ some b → w3.heap[b]? = wr.heap[b]? := fun b hb hne => (hg.block b (by simp; omega) (fun e => hne e.symm)).trans (heap_old hb rfl)
  have hst3 : w3.ownsRow base 24 2 (.slice (some ⟨g, 0, none⟩) (k + 1) capg) (k + 1) (pre ++ [.string ⟨#[]⟩, old]) := ownsRow_grown hst (fun b hb e => hk3 b hb (by simp only [Value.ownBlock, Option.some.injEq] at e; subst e; exact hneg))
  have hh : old.ownBlock = some h ∨ wr.heap.size ≤ h := by rcases hat with e | e; exact Or.inl e; exact Or.inr (by omega)
  have hbne : ∀ b, b < wr.heap.size → old.ownBlock ≠ some b → b ≠ h := by
    rintro b hb hn rfl
    rcases hat with e | e
    · exact hn e
    · omega
  constructor
  · refine ⟨?_, ?_, fun b hb h1 h2 => heap_far _ h1 (heap_far _ (hbne b hb h2) (heap_far _ (hbne b hb h2) (hk3 b hb h2))), hne, hneD, hh, by simp only [size_set]; exact hlt, by simp only [size_set]; omega, hg.os, hg.tape, hg.output⟩
    · have := ownsRow_set (ownsRow_other (ownsRow_other hst3 (b := h) (i := m * 2) (x := s0) (by simp [Value.ownBlock]; omega)) (b := h) (i := m * 2 + 1) (x := s1) (by simp [Value.ownBlock]; omega)) (i := k * 2 + 1) (by omega) (.slice (some ⟨h, 0, none⟩) (m + 1) cap)
      rwa [set_snoc1 hpre] at this
    · have := ownsRow_other (ownsRow_set (ownsRow_set hown (i := m * 2) (by omega) s0) (i := m * 2 + 1) (by omega) s1) (b := g) (i := k * 2 + 1) (x := .slice (some ⟨h, 0, none⟩) (m + 1) cap) (by simp [Value.ownBlock]; omega)
      rwa [set_snoc0 hxs, set_snoc1 hxs] at this
  · refine ⟨?_, ?_, fun b hb h1 h2 => heap_far _ (hbne b hb h2) (heap_far _ (hbne b hb h2) (heap_far _ h1 (hk3 b hb h2))), hne, hneD, hh, by simp only [size_set]; exact hlt, by simp only [size_set]; omega, hg.os, hg.tape, hg.output⟩
    · have := ownsRow_other (ownsRow_other (ownsRow_set hst3 (i := k * 2 + 1) (by omega) (.slice (some ⟨h, 0, none⟩) (m + 1) cap)) (b := h) (i := m * 2) (x := s0) (by simp [Value.ownBlock]; omega)) (b := h) (i := m * 2 + 1) (x := s1) (by simp [Value.ownBlock]; omega)
      rwa [set_snoc1 hpre] at this
    · have := ownsRow_set (ownsRow_set (ownsRow_other hown (b := g) (i := k * 2 + 1) (x := .slice (some ⟨h, 0, none⟩) (m + 1) cap) (by simp [Value.ownBlock]; omega)) (i := m * 2) (by omega) s0) (i := m * 2 + 1) (by omega) s1
      rwa [set_snoc0 hxs, set_snoc1 hxs] at this
end

theorem Apd.frs {wr wx : World} {base g k capg lo h cap D hi2 : Nat} {s0 s1 : Value} {pre : List Value} {r : List (Option Sy × Value)} {τ : Sy} (hap : Apd wr wx base g k capg (.slice none 0 0) lo 0 [] pre s0 s1 h cap D) (hr : FrsOk wr (some g) base r lo)
    (hin : τ.ty.In wr (fun b => hi2 ≤ b ∧ b < wr.heap.size ∧ some g ≠ some b ∧ b ≠ D) s0 s1) (hlo : lo ≤ hi2) (hh2 : hi2 ≤ wr.heap.size) : FrsOk wx (some g) base ((some τ, .slice (some ⟨h, 0, none⟩) 1 cap) :: r) wx.heap.size := by
  have hsz := hap.sz
  have hh : wr.heap.size ≤ h := hap.at_.resolve_left (by simp [Value.ownBlock])
  refine ⟨lo, by omega, ⟨h, cap, s0, s1, rfl, by omega, hap.lt, fun e => hap.ne (by injection e with e; exact e.symm), hap.row, (hin.keep fun b hb => hap.keep b hb.2.1 (fun e => hb.2.2.1 (by rw [e])) (by simp [Value.ownBlock])).mono fun b hb => ⟨by have := hb.1; omega, by have := hb.2.1; omega, hb.2.2.1, by have := hb.2.1; omega⟩⟩, ?_⟩
  exact hr.keep (fun b h1 h2 h3 => hap.keep b (by omega) (fun e => h3 (by rw [e])) (by simp [Value.ownBlock])) (fun b _ e => e)
theorem Apd.fn {wr wx : World} {base g k capg lo h cap D hi2 hold cold : Nat} {x0 x1 s0 s1 : Value} {pre : List Value} {a τ : Sy} (hap : Apd wr wx base g k capg (.slice (some ⟨hold, 0, none⟩) 1 cold) lo 1 [x0, x1] pre s0 s1 h cap D)
    (ha : a.ty.In wr (fun b => lo ≤ b ∧ b < hi2 ∧ some g ≠ some b ∧ b ≠ hold) x0 x1) (hin : τ.ty.In wr (fun b => hi2 ≤ b ∧ b < wr.heap.size ∧ some g ≠ some b ∧ b ≠ D) s0 s1) (hlo : lo ≤ hold) (hhi : hold < hi2) (hh2 : hi2 ≤ D) (hD : D < wr.heap.size) :
    (Sy.fn a τ).ty.In wx (fun b => lo ≤ b ∧ b < wx.heap.size ∧ some g ≠ some b ∧ b ≠ D) (.string ⟨#[]⟩) (.slice (some ⟨h, 0, none⟩) 2 cap) := by
  have hsz := hap.sz
  have hh : h = hold ∨ wr.heap.size ≤ h := by
    rcases hap.at_ with e | e
    · simp only [Value.ownBlock, Option.some.injEq] at e; exact Or.inl e.symm
    · exact Or.inr e
  have hlh : lo ≤ h := by rcases hh with e | e <;> omega
  unfold Sy.ty
  refine Ty.In_sl.2 ⟨rfl, by decide +kernel, some ⟨h, 0, none⟩, 2, cap, rfl, rfl, by simp [maxLen], fun _ => ⟨h, 0, [x0, x1, s0, s1], rfl, ⟨hlh, hap.lt, fun e => hap.ne (by injection e with e; exact e.symm), hap.neD⟩, ?_, ?_⟩⟩
  · refine ⟨[x0, x1], [s0, s1], rfl, ⟨x0, x1, rfl, ?_⟩, [s0, s1], [], rfl, ⟨s0, s1, rfl, ?_⟩, rfl⟩
    · exact (ha.keep fun b hb => hap.keep b (by have := hb.2.1; omega) (fun e => hb.2.2.1 (by rw [e])) (by simp only [Value.ownBlock, ne_eq, Option.some.injEq]; exact fun e => hb.2.2.2 e.symm)).mono fun b hb => ⟨hb.1, by have := hb.2.1; omega, hb.2.2.1, by have := hb.2.1; omega⟩
    · exact (hin.keep fun b hb => hap.keep b hb.2.1 (fun e => hb.2.2.1 (by rw [e])) (by simp only [Value.ownBlock, ne_eq, Option.some.injEq]; have := hb.1; omega)).mono fun b hb => ⟨by have := hb.1; omega, by have := hb.2.1; omega, hb.2.2.1, hb.2.2.2⟩
  · intro j u hj
    have := hap.row.cells (g := h) rfl j u hj
    rw [Nat.zero_add, ← this]
    congr 1
    unfold Addr.add; split <;> simp_all

set_option maxRecDepth 100000 in
set_option maxHeartbeats 32000000 in
theorem readType_any (x : ByteArray) (hx : x.size ≤ 4000) (i0 : Nat) (hi0 : i0 ≤ x.size) (w : World) : Calls Tryd.prog 20 #[.string x, .int .i64 i0] w (RtAt w (runR x [] i0 0)) := by
  obtain ⟨ti, hti, htz0, htz1, htz2⟩ := info_parts infoSimple
  go_enter Tryd.func20, Tryd.ntmps20
  go_wp2_with fail
  go_loopg [1, 7, 8] (x.size - i0) (fun k v1 v7 v8 wr => ∃ (i n : Nat) (frs : List (Option Sy × Value)) (Aq : Option Addr) (cq : Nat), v1 = .int .i64 i ∧ v8 = .int .i64 n ∧ v7 = .slice Aq frs.length cq ∧ i + k = x.size ∧ n ≤ 200 ∧ frs.length ≤ 40 ∧ runR x (frs.map (·.1)) i n = runR x [] i0 0 ∧
    wr.ownsRow (w.heap.size + 2) 24 2 (.slice Aq frs.length cq) frs.length (frCells frs) ∧ FrsOk wr (Value.slice Aq frs.length cq).ownBlock (w.heap.size + 2) frs wr.heap.size ∧
    wr.heap[w.heap.size]? = some (.cells #[.string ⟨#[]⟩, .slice none 0 0] 24 (0, 0)) ∧ wr.heap[w.heap.size + 1]? = some (.cells #[.int .i64 0, .int .i64 0] 29 (0, 0)) ∧ Below w.heap.size w wr)
  case atStart =>
    exact ⟨i0, 0, [], none, 0, rfl, rfl, rfl, by omega, by omega, by simp, rfl, World.ownsRow_nil _ _ _ _, by simp [FrsOk], heap_old (by go_size) (heap_at (by go_size)), heap_at (by go_size), by go_grown⟩
  case round =>
    obtain ⟨i, n, frs, Aq, cq, rfl, rfl, rfl, hk, hn, hfl, hrun, hown, hfrs, hb0, hb1, hb⟩ := hrel
    have a0 := cellv hb0 0 rfl
    have a1 := cellv hb0 1 rfl
    have a2 := free_heap hb0 0
    have a3 := free_heap hb0 1
    have a4 := lt_heap hb0
    have b0 := cellv hb1 0 rfl
    have b1 := cellv hb1 1 rfl
    have b2 := free_heap hb1 0
    have b3 := free_heap hb1 1
    have b4 := lt_heap hb1
    have HRUN := Lib.hid hrun
    have HOWN := Lib.hid hown
    have HFRS := Lib.hid hfrs
    have HB0 := Lib.hid hb0
    have HB1 := Lib.hid hb1
    have HBB := Lib.hid hb
    clear hrun hown hfrs hb0 hb1 hb
    have hbad : ∀ c j : Nat, runR x (frs.map (·.1)) i n = .bad c j → runR x [] i0 0 = .bad c j := fun c j h => HRUN.out.symm.trans h
    have HBAD := Lib.hid hbad
    clear hbad
    by_cases hi : i < x.size
    case neg =>
      have hr := HBAD.out 11 i (runR_none (by rw [byteAt_out (by omega)]; omega))
      have HR := Lib.hid hr
      clear hr
      go_wp2_with fail
      refine bodyPost_ret (v := .tuple #[.agg #[.string ⟨#[]⟩, .slice none 0 0], .int .i64 i, .agg #[.int .i64 11, .int .i64 i]]) (by simp [results, Tryd.results20, go_sem, a0, a1, b0, b1]) rfl ?_
      rw [HR.out]
      exact ⟨rfl, (((HBB.out.setCell (by simp) _).setCell (by simp) _).setCell (by simp) _).setCell (by simp) _⟩
    have hbi := byteAt_in hi
    by_cases hbyte : byteAt x i = 101 ∨ byteAt x i = 116 ∨ byteAt x i = 40
    case neg =>
      have hr := HBAD.out 11 i (runR_none hbyte)
      have HR := Lib.hid hr
      have g1 : (((x[i]'hi).toNat : Int) != 101) = true := by rw [bne_iff_ne]; omega
      have g2 : (((x[i]'hi).toNat : Int) != 116) = true := by rw [bne_iff_ne]; omega
      have g3 : (((x[i]'hi).toNat : Int) != 40) = true := by rw [bne_iff_ne]; omega
      clear hr hbyte hbi
      go_wp2_with fail
      refine bodyPost_ret (v := .tuple #[.agg #[.string ⟨#[]⟩, .slice none 0 0], .int .i64 i, .agg #[.int .i64 11, .int .i64 i]]) (by simp [results, Tryd.results20, go_sem, a0, a1, b0, b1]) rfl ?_
      rw [HR.out]
      exact ⟨rfl, (((HBB.out.setCell (by simp) _).setCell (by simp) _).setCell (by simp) _).setCell (by simp) _⟩
    have hcase : ((((x[i]'hi).toNat : Int) != 101) = false ∧ (((x[i]'hi).toNat : Int) == 40) = false ∧ byteAt x i = 101) ∨ ((((x[i]'hi).toNat : Int) != 101) = true ∧ (((x[i]'hi).toNat : Int) != 116) = false ∧ (((x[i]'hi).toNat : Int) == 40) = false ∧ byteAt x i = 116) ∨
        ((((x[i]'hi).toNat : Int) != 101) = true ∧ (((x[i]'hi).toNat : Int) != 116) = true ∧ (((x[i]'hi).toNat : Int) != 40) = false ∧ (((x[i]'hi).toNat : Int) == 40) = true ∧ byteAt x i = 40) := by
      rw [← hbi]
      rcases hbyte with h | h | h
      · left; rw [h]; decide
      · right; left; rw [h]; decide
      · right; right; rw [h]; decide
    by_cases hlim : 200 < n + 1 ∨ 40 < frs.length + 1
    · have hr := HBAD.out 1 i (runR_much hbyte (by simpa using hlim))
      have HR := Lib.hid hr
      clear hr hbyte hbi
      rcases hlim with hlim | hlim
      all_goals
        rcases hcase with ⟨g1, _, _⟩ | ⟨g1, g2, _, _⟩ | ⟨g1, g2, g3, _, _⟩
        all_goals
          go_wp2_with fail
          all_goals
            refine bodyPost_ret (v := .tuple #[.agg #[.string ⟨#[]⟩, .slice none 0 0], .int .i64 i, .agg #[.int .i64 1, .int .i64 i]]) (by simp [results, Tryd.results20, go_sem, a0, a1, b0, b1]) rfl ?_
            rw [HR.out]
            exact ⟨rfl, (((HBB.out.setCell (by simp) _).setCell (by simp) _).setCell (by simp) _).setCell (by simp) _⟩
    have hlen : frs.length ≤ 39 := by omega
    have hn2 : n + 1 ≤ 200 := by omega
    have hlim' : ¬ (200 < n + 1 ∨ 40 < (frs.map (·.1)).length + 1) := by simpa using hlim
    have hblk : ∀ k, (Value.slice Aq frs.length cq).ownBlock = some k → w.heap.size + 2 ≤ k ∧ k < wr.heap.size := HOWN.out.lt
    have HBLK := Lib.hid hblk
    clear hblk
    by_cases h40 : byteAt x i = 40
    · obtain ⟨g1, g2, g3, g4, _⟩ := (hcase.resolve_left (fun h => by omega)).resolve_left (fun h => by omega)
      have HR := Lib.hid (HRUN.out.symm.trans (runR_open h40 hlim'))
      clear hcase hlim hlim' h40 hbi hbyte
      go_wp2_with (at_builtin; refine wpList_append_lies (wr.alloc (.cells #[.string ⟨#[]⟩, .slice none 0 0] 24)) ?h1 (.tmp 55) (.tmp 57) 22 ?h2 (w.heap.size + 2) 24 ti (.agg #[.string ⟨#[]⟩, .slice none 0 0]) 2 40 ?h3 hti htz0 htz1 htz2 ?h4 ?h5 (.slice Aq frs.length cq) frs.length (frCells frs) ?h6 ?h7 ⟨wr.heap.size, 0, none⟩ 1 1 [.string ⟨#[]⟩, .slice none 0 0] ?h8 ?h9 ?h10 ?h11 ?h12 ?h13 ?h14 ?h15 (wr.heap.size + 1) ?h16 ?_)
      case h1 => rfl
      case h2 => rfl
      case h3 => exact Tryd.underlying22
      case h4 => rfl
      case h5 => omega
      case h6 => rfl
      case h7 => exact HOWN.out.alloc _
      case h8 => rfl
      case h9 => rfl
      case h10 => exact World.news_of_block (cs := #[.string ⟨#[]⟩, .slice none 0 0]) (t := 24) (fr := (0, 0)) (heap_alloc_new wr _)
      case h11 => simp [Value.oneCell']
      case h12 => omega
      case h13 => simp [maxLen]; omega
      case h14 => omega
      case h15 => simp; omega
      case h16 => simp
      intro gg cap w3 hown3 hgrow hat hlt
      have HOWN3 := Lib.hid hown3
      have HGROW := Lib.hid hgrow
      have HAT := Lib.hid hat
      have z3 : wr.heap.size + 1 ≤ w3.heap.size := by have := hgrow.size; simpa using this
      clear hown3 hgrow hat
      go_wp2_with fail
      go_roundg (x.size - (i + 1))
      case measure => omega
      case rel =>
        have hkeep : ∀ b, b < wr.heap.size → (Value.slice Aq frs.length cq).ownBlock ≠ some b → w3.heap[b]? = wr.heap[b]? := fun b hb hne => (HGROW.out.block b (by simp; omega) (fun e => hne e.symm)).trans (heap_old hb rfl)
        refine ⟨i + 1, n + 1, (none, .slice none 0 0) :: frs, _, cap, by go_num, by go_num, rfl, by omega, by omega, by simp; omega, HR.out.symm, ?_, ?_, ?_, ?_, ?_⟩
        · rw [frCells_cons]; exact HOWN3.out
        · refine FrsOk.push ((HFRS.out.keep (fun b h1 h2 h3 => hkeep b h2 h3) (fun b hb e => ?_)).mono (by omega))
          rcases HAT.out with h | h
          · rw [h]; exact e
          · simp only [Value.ownBlock, Option.some.injEq] at e; omega
        · exact (hkeep _ (by omega) (fun e => by have := HBLK.out _ e; omega)).trans HB0.out
        · exact (hkeep _ (by omega) (fun e => by have := HBLK.out _ e; omega)).trans HB1.out
        · exact (HBB.out.alloc (by omega) _).grown HGROW.out (by simp; omega) (fun k hk => by have := HBLK.out k hk; omega)
    have q1 : (i : Int) + 1 ≤ (x.size : Int) := by omega
    have q2 : (0 : Int) ≤ (i : Int) := by omega
    have q3 : (i : Int) ≤ (i : Int) + 1 := by omega
    have hleaf : ∃ τ : Sy, foldR x (frs.map (·.1)) τ (i + 1) (n + 1) = runR x [] i0 0 ∧ x.extract i (i + 1) = τ.base ∧ τ.ty = .mk τ.base [] := by
      have hex : ∀ c : UInt8, byteAt x i = c.toNat → x.extract i (i + 1) = ⟨#[c]⟩ := fun c h => extract_one hi (by rw [hbi] at h; exact UInt8.toNat_inj.1 h)
      rcases hbyte with h | h | h
      · exact ⟨.e, (runR_e h hlim').symm.trans HRUN.out, hex 101 h, rfl⟩
      · exact ⟨.t, (runR_t h hlim').symm.trans HRUN.out, hex 116 h, rfl⟩
      · exact absurd h h40
    obtain ⟨τ, hfold, hext, hty⟩ := hleaf
    have HFOLD := Lib.hid hfold
    have HTY := Lib.hid hty
    have hmain : ((((x[i]'hi).toNat : Int) != 101) = false ∧ (((x[i]'hi).toNat : Int) == 40) = false) ∨ ((((x[i]'hi).toNat : Int) != 101) = true ∧ (((x[i]'hi).toNat : Int) != 116) = false ∧ (((x[i]'hi).toNat : Int) == 40) = false) := by
      rcases hcase with ⟨g1, g4, _⟩ | ⟨g1, g2, g4, _⟩ | ⟨_, _, _, _, hh⟩
      · exact Or.inl ⟨g1, g4⟩
      · exact Or.inr ⟨g1, g2, g4⟩
      · exact absurd hh h40
    clear hfold hty hlim hlim' h40 hcase hbi hbyte
    rename World => wo
    have g4 : (((x[i]'hi).toNat : Int) == 40) = false := by rcases hmain with ⟨_, h⟩ | ⟨_, _, h⟩ <;> exact h
    go_upto_region 3 with (fail)
    go_cut [32] (fun s32 wx => s32 = .bool false ∧ wo = wx)
    case first =>
      rcases hmain with ⟨g1, g4⟩ | ⟨g1, g2, g4⟩
      all_goals
        go_wp2_with fail
        go_meet
        exact ⟨by rw [decide_eq_false (by omega)], rfl⟩
    case rest =>
      obtain ⟨rfl, rfl⟩ := hcut
      clear hmain
      go_wp2_with fail
      go_loopg [1, 7] frs.length (fun k v1 v7 wi => ∃ (i' : Nat) (fr2 : List (Option Sy × Value)) (τ : Sy) (d0 d1 : Value) (hi : Nat) (Aq : Option Addr) (cq : Nat), v1 = .int .i64 i' ∧ v7 = .slice Aq fr2.length cq ∧ fr2.length = k ∧ fr2.length ≤ 40 ∧ i + 1 ≤ i' ∧ i' ≤ x.size ∧ foldR x (fr2.map (·.1)) τ i' (n + 1) = runR x [] i0 0 ∧
        wi.ownsRow (w.heap.size + 2) 24 2 (.slice Aq fr2.length cq) fr2.length (frCells fr2) ∧ FrsOk wi (Value.slice Aq fr2.length cq).ownBlock (w.heap.size + 2) fr2 hi ∧ hi ≤ wo.heap.size ∧ wo.heap.size < wi.heap.size ∧
        wi.heap[wo.heap.size]? = some (.cells #[d0, d1] 24 (0, 0)) ∧ τ.ty.In wi (fun b => hi ≤ b ∧ b < wi.heap.size ∧ (Value.slice Aq fr2.length cq).ownBlock ≠ some b ∧ b ≠ wo.heap.size) d0 d1 ∧
        wi.heap[w.heap.size]? = some (.cells #[.string ⟨#[]⟩, .slice none 0 0] 24 (0, 0)) ∧ wi.heap[w.heap.size + 1]? = some (.cells #[.int .i64 0, .int .i64 0] 29 (0, 0)) ∧ Below w.heap.size w wi ∧ ∀ q, (Value.slice Aq fr2.length cq).ownBlock = some q → q < wo.heap.size)
      case atStart =>
        refine ⟨i + 1, frs, τ, _, _, wo.heap.size, Aq, cq, by go_num, rfl, rfl, by omega, by omega, by omega, HFOLD.out, HOWN.out.alloc _, HFRS.out.keep (fun b h1 h2 h3 => heap_old h2 rfl) (fun b h e => e), Nat.le_refl _, by simp, heap_at rfl, ?_, heap_old a4 HB0.out, heap_old b4 HB1.out, HBB.out.alloc (by omega) _, fun q hq => (HBLK.out q hq).2⟩
        rw [HTY.out]
        exact Ty.In.mk_ (by have : τ.base.size ≤ 1 := (by rw [← hext]; exact extract_size hi); unfold maxLen; omega) rfl (by omega) (by omega)
      case round =>
        obtain ⟨i', fr2, τ', d0, d1, hi2, Aq', cq', rfl, rfl, hk2, hl40, hii, hix, hfold, hown, hfrs, hhi, hsz, hD, hin, hb0, hb1, hb, hqo⟩ := hrel
        have a0' := cellv hb0 0 rfl
        have a1' := cellv hb0 1 rfl
        have a2' := free_heap hb0 0
        have a3' := free_heap hb0 1
        have a4' := lt_heap hb0
        have b0' := cellv hb1 0 rfl
        have b1' := cellv hb1 1 rfl
        have b2' := free_heap hb1 0
        have b3' := free_heap hb1 1
        have b4' := lt_heap hb1
        obtain ⟨sd, Ad, nd, cd, rfl, rfl⟩ := hin.shape
        have k0 := cellv hD 0 rfl
        have k1 := cellv hD 1 rfl
        have k2 := free_heap hD 0
        have k3 := free_heap hD 1
        have k4 := lt_heap hD
        have HFOLD' := Lib.hid hfold
        have HOWN' := Lib.hid hown
        have HFRS' := Lib.hid hfrs
        have HD' := Lib.hid hD
        have HIN' := Lib.hid hin
        have HB0' := Lib.hid hb0
        have HB1' := Lib.hid hb1
        have HBB' := Lib.hid hb
        clear hfold hown hfrs hD hin hb0 hb1 hb a0 a1 a2 a3 a4 b0 b1 b2 b3 b4
        cases fr2 with
        | nil =>
          have hnil : (((List.length ([] : List (Option Sy × Value)) : Nat) : Int) == 0) = true := rfl
          simp only [List.length_nil, Int.natCast_zero] at hnil ⊢
          go_wp2_with fail
          refine bodyPost_ret (v := .tuple #[.agg #[.string sd, .slice Ad nd cd], .int .i64 i', .agg #[.int .i64 0, .int .i64 0]]) (by simp [results, Tryd.results20, go_sem, a0', a1', b0', b1']) rfl ?_
          rw [← HFOLD'.out]
          simp only [List.map_nil, foldR, RtAt]
          refine ⟨_, _, rfl, ?_, (((HBB'.out.setCell (by simp) _).setCell (by simp) _).setCell (by simp) _).setCell (by simp) _⟩
          have hbase := FrsOk.base HFRS'.out
          exact (HIN'.out.keep (fun b hb => heap_far _ (by have := hb.1; omega) (heap_far _ (by have := hb.1; omega) (heap_far _ (by have := hb.1; omega) (heap_far _ (by have := hb.1; omega) rfl))))).mono (fun b hb => ⟨by have := hb.1; omega, by have := hb.2.1; simp; omega⟩)
        | cons p r =>
          obtain ⟨f, v⟩ := p
          obtain ⟨lo, hlo, hfr, hrest⟩ := HFRS'.out
          have hl1 : (((f, v) :: r).length) = r.length + 1 := rfl
          rw [hl1] at HOWN' HIN' hfr hrest hl40
          simp only [hl1]
          obtain ⟨g, capg, hAg, hgb, hgl⟩ := HOWN'.out.form (by omega)
          injection hAg with hAg1 hAg2 hAg3
          subst hAg1 hAg3
          have hcells : ∀ j u, [Value.string ⟨#[]⟩, v][j]? = some u → wr.cell? ⟨g, r.length * 2 + j, none⟩ = some u := by
            intro j u hj
            have hj2 : j < 2 := (List.getElem?_eq_some_iff.1 hj).1
            rw [HOWN'.out.cellAt _ (by omega), frCells_cons, List.getElem?_append_right (by rw [frCells_len]; omega), frCells_len, show r.length * 2 + j - r.length * 2 = j by omega]
            exact hj
          have e0 : wr.cell? ⟨g, r.length * 2, none⟩ = some (.string ⟨#[]⟩) := hcells 0 _ rfl
          have e1 : wr.cell? ⟨g, r.length * 2 + 1, none⟩ = some v := hcells 1 _ rfl
          have e2 := HOWN'.out.frozenAt (r.length * 2)
          have e3 := HOWN'.out.frozenAt (r.length * 2 + 1)
          have HE := Lib.hid hcells
          have HFR := Lib.hid hfr
          have HREST := Lib.hid hrest
          clear hcells hfr hrest hl1
          have hp1 : (((r.length + 1 : Nat) : Int) == 0) = false := beq_eq_false_iff_ne.2 (by omega)
          have hp2 : ((r.length + 1 : Nat) : Int) - 1 = (r.length : Int) := by omega
          obtain ⟨old, m, cold, xs, rfl, hm, hvo, hvlo⟩ : ∃ (old : Option Addr) (m cold : Nat) (xs : List Value), v = .slice old m cold ∧ m ≤ 1 ∧ wr.ownsRow lo 24 2 (.slice old m cold) m xs ∧ (∀ b, (Value.slice old m cold).ownBlock = some b → lo ≤ b ∧ b < hi2 ∧ b ≠ g) := by
            cases f with
            | none => exact ⟨none, 0, 0, [], HFR.out, by omega, World.ownsRow_nil _ _ _ _, by simp [Value.ownBlock]⟩
            | some a =>
              obtain ⟨h, cap, x0, x1, e, h1, h2, h3, h4, h5⟩ := HFR.out
              subst e
              refine ⟨some ⟨h, 0, none⟩, 1, cap, [x0, x1], rfl, by omega, h4, fun b hb => ?_⟩
              simp only [Value.ownBlock, Option.some.injEq] at hb
              subst hb
              exact ⟨h1, h2, fun e => h3 (by simp [Value.ownBlock, e])⟩
          have HVO := Lib.hid hvo
          have HVLO := Lib.hid hvlo
          clear hvo hvlo
          go_wp2_with fail
          have hloz : lo ≤ wr.heap.size := by omega
          have q5 : (0 : Int) ≤ (r.length : Int) := by omega
          have q6 : (r.length : Int) < (r.length : Int) + 1 := by omega
          have q7 : (0 : Int) ≤ (m : Int) := by omega
          have q8 : (m : Int) < (m : Int) + 1 := by omega
          have hgD : g < wo.heap.size := hqo g rfl
          have hneg : (Value.slice old m cold).ownBlock ≠ some g := fun e => (HVLO.out g e).2.2 rfl
          have hneD : (Value.slice old m cold).ownBlock ≠ some wo.heap.size := fun e => by have := (HVLO.out _ e).2.1; omega
          have HNEG := Lib.hid hneg
          have HNED := Lib.hid hneD
          clear hneg hneD hqo
          go_cut [10] (fun s10 wx => s10 = .int .i64 r.length ∧ ∃ h cap : Nat, Apd wr wx (w.heap.size + 2) g r.length cq' (.slice old m cold) lo m xs (frCells r) (.string sd) (.slice Ad nd cd) h cap wo.heap.size)
          case first =>
           go_region_law ((refine step_append_lies _ (by rfl) (.tmp 82) (.tmp 85) _ (by rfl) lo 24 ti _ 2 40 Tryd.underlying22 hti htz0 htz1 htz2 rfl (by omega) (.slice old m cold) m xs (by rfl) (HVO.out.alloc _).drew ⟨wr.heap.size, 0, none⟩ 1 1 [.string ⟨#[]⟩, .slice none 0 0] (by rfl) (by rfl) (World.news_of_block (cs := #[.string ⟨#[]⟩, .slice none 0 0]) (t := 24) (fr := (0, 0)) (heap_alloc_new wr _)) (by simp [Value.oneCell']) (by omega) (by unfold maxLen; omega) (by omega) (by simp; omega) (wr.heap.size + 1) (by simp) ?_; intro gg cap w3 hown3 hgrow hat hlt; have kk : ∀ b, b < wr.heap.size → (Value.slice old m cold).ownBlock ≠ some b → w3.heap[b]? = wr.heap[b]? := (fun b hb hne => (hgrow.block b (by simp; omega) (fun e => hne e.symm)).trans (heap_old hb rfl)); have y0 := (cell_keep (kk g hgl HNEG.out) (r.length * 2 + 1)).trans e1; have y1 := (cell_keep (kk _ k4 HNED.out) 0).trans k0; have y2 := (cell_keep (kk _ k4 HNED.out) 1).trans k1; have y3 := (World.frozen?_of_block (a := ⟨g, r.length * 2 + 1, none⟩) (kk g hgl HNEG.out)).trans e3; have m0 := (hown3.cellAt (m * 2) (by omega)).trans (snoc_at0 HVO.out.1); have m1 := (hown3.cellAt (m * 2 + 1) (by omega)).trans (snoc_at1 HVO.out.1); have m2 := hown3.frozenAt (m * 2); have m3 := hown3.frozenAt (m * 2 + 1); have ne1 : g ≠ gg := (by rintro rfl; rcases hat with h | h; exact HNEG.out h; omega); have ne2 : wo.heap.size ≠ gg := (by rintro rfl; rcases hat with h | h; exact HNED.out h; omega); have KK := Lib.hid kk; have HOWN3 := Lib.hid hown3; have HGROW := Lib.hid hgrow; have HAT := Lib.hid hat; clear kk hown3 hgrow hat))
           all_goals
             go_wp2_with fail
             go_meet
             refine ⟨rfl, gg, cap, ?_⟩
             first
             | exact (apd (by have := HOWN'.out; rw [frCells_cons] at this; exact this) (frCells_len r) HVO.out.1 hgl HOWN3.out HGROW.out HAT.out hlt HNEG.out (fun e => ne2 e.symm)).1
             | exact (apd (by have := HOWN'.out; rw [frCells_cons] at this; exact this) (frCells_len r) HVO.out.1 hgl HOWN3.out HGROW.out HAT.out hlt HNEG.out (fun e => ne2 e.symm)).2
          case rest =>
            obtain ⟨rfl, h, cap, hap⟩ := hcut
            rename World => wx
            have hgb2 : w.heap.size + 2 ≤ g := hgb
            have hlo2 : w.heap.size + 2 ≤ lo := FrsOk.base HREST.out
            have hold : ∀ b, b < w.heap.size + 2 → (Value.slice old m cold).ownBlock ≠ some b := fun b hb e => by have := (HVLO.out b e).1; omega
            have p0 := (hap.keep w.heap.size a4' (by omega) (hold _ (by omega))).trans HB0'.out
            have p1 := (hap.keep (w.heap.size + 1) b4' (by omega) (hold _ (by omega))).trans HB1'.out
            have pD := (hap.keep wo.heap.size k4 (by omega) (by exact HNED.out)).trans HD'.out
            have hbx : Below w.heap.size w wx := HBB'.out.trans ⟨hap.os, hap.tape, hap.output, hap.sz, fun b hb => hap.keep b (by omega) (by omega) (hold b (by omega))⟩
            have s0' := (hap.st.cellAt (r.length * 2) (by omega)).trans (snoc_at0 (frCells_len r))
            have s1' := (hap.st.cellAt (r.length * 2 + 1) (by omega)).trans (snoc_at1 (frCells_len r))
            have sl : g < wx.heap.size := by have := hap.sz; omega
            have HX := Lib.hid hbx
            have HAP := Lib.hid hap
            clear hap hbx hold a0' a1' a2' a3' a4' b0' b1' b2' b3' b4' k0 k1 k2 k3 k4 e0 e1 e2 e3 HB0' HB1' HBB'
            have p0_0 := cv0 p0
            have p0_1 := cv1 p0
            have p0_f0 := free_heap p0 0
            have p0_f1 := free_heap p0 1
            have p0_l := lt_heap p0
            have P0 := Lib.hid p0
            clear p0
            have p1_0 := cv0 p1
            have p1_1 := cv1 p1
            have p1_f0 := free_heap p1 0
            have p1_f1 := free_heap p1 1
            have p1_l := lt_heap p1
            have P1 := Lib.hid p1
            clear p1
            have pD_0 := cv0 pD
            have pD_1 := cv1 pD
            have pD_f0 := free_heap pD 0
            have pD_f1 := free_heap pD 1
            have pD_l := lt_heap pD
            have PD := Lib.hid pD
            clear pD
            cases f with
            | none =>
              obtain ⟨rfl, rfl, rfl, rfl⟩ : old = none ∧ m = 0 ∧ cold = 0 ∧ xs = [] := by
                have := HFR.out
                simp only [FrOk, Value.slice.injEq] at this
                exact ⟨this.1, this.2.1, this.2.2, List.eq_nil_of_length_eq_zero (by have := HVO.out.1; omega)⟩
              by_cases h32 : byteAt x i' = 32
              · have hi' : i' < x.size := byteAt_lt (by omega)
                have hc := byteAt_in hi'
                have t1 : (((x[i']'hi').toNat : Int) != 32) = false := (by have : (x[i']'hi').toNat = 32 := (by omega); rw [this]; rfl)
                have hnext := HFOLD'.out.symm.trans (foldR_first h32)
                have HNEXT := Lib.hid hnext
                clear hnext hc h32
                go_wp2_with fail
                go_roundg (x.size - (i' + 1))
                case measure => omega
                case rel => exact ⟨i' + 1, n + 1, (some τ', .slice (some ⟨h, 0, none⟩) 1 cap) :: r, some ⟨g, 0, none⟩, cq', by go_num, by go_num, rfl, by omega, by omega, hl40, HNEXT.out.symm, by rw [frCells_cons]; exact HAP.out.st, HAP.out.frs HREST.out HIN'.out (by omega) (by omega), P0.out, P1.out, HX.out⟩
              · have hr := HFOLD'.out.symm.trans (foldR_first_bad h32)
                by_cases hi' : i' < x.size
                · have hc := byteAt_in hi'
                  have t1 : (((x[i']'hi').toNat : Int) != 32) = true := bne_iff_ne.2 (by omega)
                  have HR := Lib.hid hr
                  clear hr hc h32
                  go_wp2_with fail
                  refine bodyPost_ret (v := .tuple #[.agg #[.string ⟨#[]⟩, .slice none 0 0], .int .i64 i', .agg #[.int .i64 11, .int .i64 i']]) (by simp [results, Tryd.results20, go_sem, p0_0, p0_1, p1_0, p1_1]) rfl ?_
                  rw [HR.out]
                  exact ⟨rfl, (((HX.out.setCell (by simp) _).setCell (by simp) _).setCell (by simp) _).setCell (by simp) _⟩
                · have t2 : (x.size : Int) ≤ (i' : Int) := by omega
                  have HR := Lib.hid hr
                  clear hr h32
                  go_wp2_with fail
                  refine bodyPost_ret (v := .tuple #[.agg #[.string ⟨#[]⟩, .slice none 0 0], .int .i64 i', .agg #[.int .i64 11, .int .i64 i']]) (by simp [results, Tryd.results20, go_sem, p0_0, p0_1, p1_0, p1_1]) rfl ?_
                  rw [HR.out]
                  exact ⟨rfl, (((HX.out.setCell (by simp) _).setCell (by simp) _).setCell (by simp) _).setCell (by simp) _⟩
            | some a =>
              obtain ⟨hold, ch, x0, x1, hf1, hf2, hf3, hf4, hf5, hf6⟩ := HFR.out
              simp only [Value.slice.injEq] at hf1
              obtain ⟨rfl, rfl, rfl⟩ := hf1
              obtain rfl : xs = [x0, x1] := by
                have h1 := HVO.out
                obtain ⟨_, h2⟩ := h1
                obtain ⟨_, h3⟩ := hf5
                rcases h2 with ⟨h2, _⟩ | ⟨b1, c1, cu1, e1, _, q1, _, _, _, w1⟩
                · cases h2
                rcases h3 with ⟨h3, _⟩ | ⟨b2, c2, cu2, e2, _, q2, _, _, _, w2⟩
                · cases h3
                simp only [Value.slice.injEq, Option.some.injEq, Addr.mk.injEq] at e1 e2
                obtain ⟨⟨rfl, _⟩, _, rfl⟩ := e1
                obtain ⟨⟨rfl, _⟩, _, rfl⟩ := e2
                have := q1.symm.trans q2
                simp only [Option.some.injEq, Obj.cells.injEq] at this
                obtain ⟨rfl, _⟩ := this
                exact w1.symm.trans w2
              by_cases h41 : byteAt x i' = 41
              · have hi' : i' < x.size := byteAt_lt (by omega)
                have hc := byteAt_in hi'
                have t1 : (((x[i']'hi').toNat : Int) != 41) = false := (by have : (x[i']'hi').toNat = 41 := (by omega); rw [this]; rfl)
                have hnext := HFOLD'.out.symm.trans (foldR_second h41)
                have HNEXT := Lib.hid hnext
                have HF6 := Lib.hid hf6
                have q9 : (r.length : Int) ≤ (cq' : Int) := by
                  rcases HAP.out.st.2 with ⟨h2, _⟩ | ⟨b1, c1, cu1, e1, _, q1, hcc, _⟩
                  · cases h2
                  · simp only [Value.slice.injEq] at e1
                    omega
                clear hnext hc h41 hf4 hf5 hf6
                go_wp2_with fail
                go_roundg r.length
                case measure => simp only [List.length_cons] at hk2; omega
                case rel =>
                  refine ⟨i' + 1, r, .fn a τ', .string ⟨#[]⟩, .slice (some ⟨h, 0, none⟩) 2 cap, lo, some ⟨g, 0, none⟩, cq', by go_num, rfl, rfl, by omega, by omega, by omega, HNEXT.out.symm, ?_, ?_, by omega, by rw [size_set, size_set]; omega, by simpa using heap_set (heap_set PD.out 0 _) 1 _, ?_, heap_far _ (by omega) (heap_far _ (by omega) P0.out), heap_far _ (by omega) (heap_far _ (by omega) P1.out), (HX.out.setCell (by simp; omega) _).setCell (by simp; omega) _, fun q e => by simp only [Value.ownBlock, Option.some.injEq] at e; omega⟩
                  · exact ownsRow_other (ownsRow_other (ownsRow_pop (frCells_len r) HAP.out.st) (by simp [Value.ownBlock]; omega)) (by simp [Value.ownBlock]; omega)
                  · exact HREST.out.keep (fun b h1 h2 h3 => heap_far _ (by omega) (heap_far _ (by omega) (HAP.out.keep b (by omega) (fun e => h3 (by rw [e]; rfl)) (by simp [Value.ownBlock]; omega)))) (fun b _ e => e)
                  · exact ((HAP.out.fn HF6.out HIN'.out hf2 (by omega) (by omega) (by omega)).keep (fun b hb => heap_far _ hb.2.2.2 (heap_far _ hb.2.2.2 rfl))).mono (fun b hb => ⟨hb.1, by rw [size_set, size_set]; exact hb.2.1, hb.2.2.1, hb.2.2.2⟩)
              · have hr := HFOLD'.out.symm.trans (foldR_second_bad h41)
                clear hf3 hf4 hf5 hf6
                by_cases hi' : i' < x.size
                · have hc := byteAt_in hi'
                  have t1 : (((x[i']'hi').toNat : Int) != 41) = true := bne_iff_ne.2 (by omega)
                  have HR := Lib.hid hr
                  clear hr hc h41
                  go_wp2_with fail
                  refine bodyPost_ret (v := .tuple #[.agg #[.string ⟨#[]⟩, .slice none 0 0], .int .i64 i', .agg #[.int .i64 11, .int .i64 i']]) (by simp [results, Tryd.results20, go_sem, p0_0, p0_1, p1_0, p1_1]) rfl ?_
                  rw [HR.out]
                  exact ⟨rfl, (((HX.out.setCell (by simp) _).setCell (by simp) _).setCell (by simp) _).setCell (by simp) _⟩
                · have t2 : (x.size : Int) ≤ (i' : Int) := by omega
                  have HR := Lib.hid hr
                  clear hr h41
                  go_wp2_with fail
                  refine bodyPost_ret (v := .tuple #[.agg #[.string ⟨#[]⟩, .slice none 0 0], .int .i64 i', .agg #[.int .i64 11, .int .i64 i']]) (by simp [results, Tryd.results20, go_sem, p0_0, p0_1, p1_0, p1_1]) rfl ?_
                  rw [HR.out]
                  exact ⟨rfl, (((HX.out.setCell (by simp) _).setCell (by simp) _).setCell (by simp) _).setCell (by simp) _⟩

end Go.Proofs.YtnoceodmnjhljaaDoor
