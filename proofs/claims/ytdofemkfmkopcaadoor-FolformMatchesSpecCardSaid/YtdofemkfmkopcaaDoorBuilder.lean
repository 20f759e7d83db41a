/-
  strings.Builder, as the functions of this claim use it: WriteByte and WriteString by a contract that tells exactly which blocks stay as they were.
  (The walks of copyCheck, WriteByte, WriteString follow the guide's library's own, turned to this program.)
-/
import Derived.Test.YtdofemkfmkopcaaDoorProg
import Derived.Test.YtdofemkfmkopcaaDoorMore
import Derived.Lib.Strings
import Derived.Lib.Builder
import Derived.Lib.AppendStr
import Derived.Lib.UnsafeStr
import Derived.Laws.Externs
namespace Go.Proofs.YtdofemkfmkopcaaDoor
open Go Go.RowKit
set_option linter.unusedSimpArgs false
set_option linter.unusedVariables false

/-- A builder in block b, its buffer a row of bytes from block 'base' on, that holds the bytes l. -/
def Bld (base b : Nat) (l : List UInt8) (w : World) : Prop :=
  base ≤ b ∧ ∃ p v, (p = .pointer none ∨ p = .pointer (some ⟨b, 0, none⟩)) ∧ w.heap[b]? = some (.cells #[p, v] 84 (0, 0)) ∧ w.ownsRow base 5 1 v l.length (Lib.byteCells l)

/-- Which blocks stay as they were while the builder in block b is written: those below 'base', and every block of cells that are no bytes, but b. -/
structure KeepB (base b : Nat) (w w' : World) : Prop where
  os : w'.os = w.os
  tape : w'.tape = w.tape
  output : w'.output = w.output
  size : w.heap.size ≤ w'.heap.size
  block : ∀ k, k < w.heap.size → k ≠ b → (k < base ∨ ∃ cs T fr, w.heap[k]? = some (.cells cs T fr) ∧ T ≠ 5) → w'.heap[k]? = w.heap[k]?
theorem KeepB.refl (base b : Nat) (w : World) : KeepB base b w w := ⟨rfl, rfl, rfl, Nat.le_refl _, fun _ _ _ _ => rfl⟩
theorem KeepB.trans {base b : Nat} {u v w : World} (h : KeepB base b u v) (k : KeepB base b v w) : KeepB base b u w :=
  ⟨k.os.trans h.os, k.tape.trans h.tape, k.output.trans h.output, Nat.le_trans h.size k.size, fun i h1 h2 h3 => by
    have e := h.block i h1 h2 h3
    refine (k.block i (Nat.lt_of_lt_of_le h1 h.size) h2 ?_).trans e
    rcases h3 with h3 | ⟨cs, T, fr, h3, h4⟩
    · exact Or.inl h3
    · exact Or.inr ⟨cs, T, fr, e.trans h3, h4⟩⟩
theorem KeepB.alloc {base b : Nat} {u v : World} (h : KeepB base b u v) (o : Obj) : KeepB base b u (v.alloc o) :=
  ⟨h.os, h.tape, h.output, Nat.le_trans h.size (by simp), fun i h1 h2 h3 => (Below.heap_alloc v o i (Nat.lt_of_lt_of_le h1 h.size)).trans (h.block i h1 h2 h3)⟩
theorem KeepB.drew {base b : Nat} {u v : World} (h : KeepB base b u v) : KeepB base b u v.drew := ⟨h.os, h.tape, h.output, h.size, h.block⟩
theorem KeepB.set {base b : Nat} {u v : World} (h : KeepB base b u v) (i : Nat) (x : Value) : KeepB base b u (v.setCell ⟨b, i, none⟩ x) :=
  ⟨h.os, h.tape, h.output, by simpa [World.setCell] using h.size, fun i h1 h2 h3 => (Below.heap_setCell _ _ _ _ h2).trans (h.block i h1 h2 h3)⟩
theorem KeepB.below {base b : Nat} {u v : World} (h : KeepB base b u v) (hb : base ≤ b) (hu : base ≤ u.heap.size) : Below base u v :=
  ⟨h.os, h.tape, h.output, h.size, fun k hk => h.block k (by omega) (by omega) (Or.inl hk)⟩
theorem KeepB.typed {base b : Nat} {u v : World} (h : KeepB base b u v) {k : Nat} {cs : Array Value} {T : TypeId} {fr : Nat × Nat} (hk : u.heap[k]? = some (.cells cs T fr)) (hT : T ≠ 5) (hb : k ≠ b) : v.heap[k]? = some (.cells cs T fr) :=
  (h.block k (lt_heap hk) hb (Or.inr ⟨cs, T, fr, hk, hT⟩)).trans hk

theorem Bld.new (w : World) : Bld w.heap.size w.heap.size [] (w.alloc (.cells #[.pointer none, .slice none 0 0] 84)) :=
  ⟨Nat.le_refl _, _, _, Or.inl rfl, heap_alloc_new w _, World.ownsRow_nil _ _ _ _⟩
theorem Bld.is {base b : Nat} {l : List UInt8} {w : World} (h : Bld base b l w) : Lib.IsBuilder 84 5 base b (Lib.byteCells l) w := by
  obtain ⟨hb, p, v, hp, hh, hown⟩ := h
  have hown' : w.ownsRow base 5 1 v (Lib.byteCells l).length (Lib.byteCells l) := by rw [Lib.byteCells_length]; exact hown
  have hne := Lib.ownBlock_ne hown' hh (by decide)
  rcases hp with rfl | rfl
  · exact Or.inl ⟨hb, v, hh, hown', hne⟩
  · exact Or.inr ⟨hb, v, hh, hown', hne⟩
/-- The builder stays as it is while others write elsewhere. -/
theorem Bld.keep {base b : Nat} {l : List UInt8} {w w' : World} (h : Bld base b l w) (hk : ∀ k, k < w.heap.size → base ≤ k → (k = b ∨ ∃ cs fr, w.heap[k]? = some (.cells cs 5 fr)) → w'.heap[k]? = w.heap[k]?) : Bld base b l w' := by
  obtain ⟨hb, p, v, hp, hh, h1, h2⟩ := h
  refine ⟨hb, p, v, hp, (hk b (lt_heap hh) hb (Or.inl rfl)).trans hh, h1, ?_⟩
  rcases h2 with h2 | ⟨g, cap, cur, e, hg, hc, r⟩
  · exact Or.inl h2
  · exact Or.inr ⟨g, cap, cur, e, hg, (hk g (lt_heap hc) hg (Or.inr ⟨_, _, hc⟩)).trans hc, r⟩
theorem Bld.alloc {base b : Nat} {l : List UInt8} {w : World} (h : Bld base b l w) (o : Obj) : Bld base b l (w.alloc o) := h.keep fun k hk _ _ => Below.heap_alloc w o k hk
theorem Bld.below {base b : Nat} {l : List UInt8} {w w' : World} (h : Bld base b l w) (hb : Below w.heap.size w w') : Bld base b l w' := h.keep fun k hk _ _ => hb.block k hk

theorem infoByte : (Tryd.prog.info? 5).map (fun i => (i.zero, i.size, i.bytes)) = some (some (.int .u8 0), 1, 1) := by kernel_rfl
theorem sizeBuilder : (Tryd.prog.info? 84).map (·.size) = some 2 := by kernel_rfl
theorem liesBuilder : liesAt Tryd.prog Tryd.prog.depth 84 (2 / Tryd.prog.cellsOf 84) 0 84 1 = true := by kernel_rfl

theorem heap_setc {w : World} {b : Nat} {cs : Array Value} {T : TypeId} {fr : Nat × Nat} (h : w.heap[b]? = some (.cells cs T fr)) (i : Nat) (v : Value) : (w.setCell ⟨b, i, none⟩ v).heap[b]? = some (.cells (cs.setIfInBounds i v) T fr) := by
  simp [World.setCell, Array.getElem?_modify, h]
theorem ownsRow_farB {w : World} {base b i : Nat} {E : TypeId} {size n : Nat} {v x : Value} {xs : List Value} (h : w.ownsRow base E size v n xs) (hne : v.ownBlock ≠ some b) : (w.setCell ⟨b, i, none⟩ x).ownsRow base E size v n xs :=
  h.kept (row := some b) ⟨rfl, rfl, rfl, by simp [World.setCell], fun k _ hk => Below.heap_setCell _ _ _ _ (fun e => hk (by simp [e]))⟩ (Or.inr hne)

set_option maxHeartbeats 1000000 in
set_option maxRecDepth 100000 in
theorem copyCheck_any (base b : Nat) (l : List UInt8) (w : World) (h : Bld base b l w) :
    Calls Tryd.prog 97 #[.pointer (some ⟨b, 0, none⟩)] w fun e w' => e = .returned (.tuple #[]) ∧ (∃ v, w'.heap[b]? = some (.cells #[.pointer (some ⟨b, 0, none⟩), v] 84 (0, 0)) ∧ w'.ownsRow base 5 1 v l.length (Lib.byteCells l)) ∧ KeepB base b w w' ∧ w'.heap.size = w.heap.size := by
  obtain ⟨j, hj, hjs⟩ := Option.map_eq_some_iff.1 sizeBuilder
  obtain ⟨hB, p, v, hp, hh, hown⟩ := h
  have h0 := cellv hh 0 rfl
  have h1 := free_heap hh 0
  have hsh : w.shape? b = some (84, 2) := by simp [World.shape?, hh]
  have hne := Lib.ownBlock_ne hown hh (by decide)
  have HO := Lib.hid hown
  have HH := Lib.hid hh
  clear hh hown
  rcases hp with rfl | rfl
  · go_enter Tryd.func97, Tryd.ntmps97
    go_wp2_with fail
    rw [Lib.run_to_unsafe w ⟨b, 0, none⟩ Tryd.underlying81 Tryd.underlying145 hj (by rw [hjs]; decide) hsh (Nat.zero_lt_succ 1)]
    simp only [Result.andThen]
    rw [Oper.upon_value]
    go_wp2_with fail
    rw [run_callFunc_extern Tryd.func113 (by kernel_rfl) (by kernel_rfl) (by kernel_rfl) (e := Extern.AbiNoEscape.same) (by kernel_rfl)]
    rw [Lib.run_noEscape]
    simp only [Result.andThen]
    rw [Oper.upon_value]
    go_wp2_with fail
    rw [Lib.run_from_unsafe w ⟨b, 0, none⟩ Tryd.underlying145 Tryd.underlying81 hj hsh liesBuilder]
    simp only [Result.andThen]
    rw [Oper.upon_value]
    go_wp2_with fail
    go_end0
    exact ⟨rfl, ⟨v, by simpa using heap_setc HH.out 0 (.pointer (some ⟨b, 0, none⟩)), (ownsRow_farB HO.out hne)⟩, (KeepB.refl _ _ _).set _ _, by simp [World.setCell]⟩
  · go_enter Tryd.func97, Tryd.ntmps97
    go_wp2_with fail
    rw [Lib.run_neq_ptr_same w _ Tryd.underlying81 hj]
    go_wp2_with fail
    go_end0
    exact ⟨rfl, ⟨v, HH.out, HO.out⟩, KeepB.refl _ _ _, rfl⟩

/-- The steps behind the append, in one word. -/
theorem Bld.appended {base b : Nat} {l l' : List UInt8} {w1 w2 : World} {v v' : Value} {o : Option Obj} (hB : base ≤ b) (hh : w1.heap[b]? = some (.cells #[.pointer (some ⟨b, 0, none⟩), v] 84 (0, 0))) (hown : w1.ownsRow base 5 1 v l.length (Lib.byteCells l))
    (hown' : w2.ownsRow base 5 1 v' (l ++ l').length (Lib.byteCells (l ++ l'))) (hg : (match o with | some o => w1.alloc o | none => w1).grownBy w2 v.ownBlock) :
    w2.heap[b]? = some (.cells #[.pointer (some ⟨b, 0, none⟩), v] 84 (0, 0)) ∧ Bld base b (l ++ l') (w2.setCell ⟨b, 1, none⟩ v') ∧ KeepB base b w1 (w2.setCell ⟨b, 1, none⟩ v') := by
  have hne := Lib.ownBlock_ne hown hh (by decide)
  have hk : ∀ k, k < w1.heap.size → v.ownBlock ≠ some k → w2.heap[k]? = w1.heap[k]? := by
    intro k hk hn
    cases o with
    | none => exact hg.block k hk (fun e => hn e.symm)
    | some o => exact (hg.block k (by simp; omega) (fun e => hn e.symm)).trans (Below.heap_alloc w1 o k hk)
  have hb2 := (hk b (lt_heap hh) hne).trans hh
  have hne' := Lib.ownBlock_ne hown' hb2 (by decide)
  have hsz : w1.heap.size ≤ w2.heap.size := by
    cases o with
    | none => exact hg.size
    | some o => have := hg.size; simp at this; omega
  refine ⟨hb2, ⟨hB, _, _, Or.inr rfl, by simpa using heap_setc hb2 1 v', ownsRow_farB hown' hne'⟩, ?_⟩
  refine KeepB.set ?_ 1 v'
  refine ⟨?_, ?_, ?_, hsz, fun k h1 h2 h3 => hk k h1 ?_⟩
  · cases o <;> exact hg.os
  · cases o <;> exact hg.tape
  · cases o <;> exact hg.output
  · intro e
    rcases h3 with h3 | ⟨cs, T, fr, h3, h4⟩
    · have := (hown.lt k e).1; omega
    · rcases hown.2 with ⟨e', _⟩ | ⟨g, cap, cur, e', _, hc, _⟩
      · rw [e'] at e; simp [Value.ownBlock] at e
      · rw [e'] at e
        simp only [Value.ownBlock, Option.some.injEq] at e
        subst e
        rw [hc] at h3
        simp only [Option.some.injEq, Obj.cells.injEq] at h3
        exact h4 h3.2.1.symm

set_option maxHeartbeats 2000000 in
set_option maxRecDepth 100000 in
theorem writeByte_any (base b : Nat) (l : List UInt8) (c : UInt8) (w : World) (h : Bld base b l w) (hlen : l.length + 1 ≤ 140737488355328) :
    Calls Tryd.prog 84 #[.pointer (some ⟨b, 0, none⟩), .int .u8 c.toNat] w fun e w' => e = .returned .nilIface ∧ Bld base b (l ++ [c]) w' ∧ KeepB base b w w' := by
  obtain ⟨i0, hi, hz0, hz1, hz2⟩ := info_parts infoByte
  have hB := h.1
  go_enter Tryd.func84, Tryd.ntmps84
  go_wp2_with fail
  refine (copyCheck_any base b l _ h).mono ?_
  rintro e w1 ⟨rfl, ⟨v, hh, hown⟩, hk, hsz⟩
  have c1 := cellv hh 1 rfl
  have c2 := free_heap hh 1
  have hlt := lt_heap hh
  have HO := Lib.hid hown
  have HH := Lib.hid hh
  have HK := Lib.hid hk
  have HSZ := Lib.hid hsz
  have H := Lib.hid h
  clear hh hown hk hsz h
  go_wp2_with (at_builtin; refine wpList_append_own _ rfl _ _ 82 rfl base 5 i0 (.int .u8 0) 1 1 Tryd.underlying82 hi hz0 hz1 hz2 rfl (by decide) _ _ _ rfl (HO.out.alloc _) ⟨w1.heap.size, 0, none⟩ 1 1 [.int .u8 c.toNat] rfl rfl ?c1 ?c2 ?c3 ?c4 ?c5 ?_)
  case c1 =>
    intro j u hj
    match j, hj with
    | 0, hj => simp at hj; subst hj; simp [Addr.add]
  case c2 => intro u hu; simp at hu; subst hu; rfl
  case c3 => unfold maxLen; omega
  case c4 => omega
  case c5 => simp; omega
  intro v' w2 hown' hgrow _
  obtain ⟨g, cap, rfl⟩ : ∃ g cap, v' = .slice (some ⟨g, 0, none⟩) (l.length + 1) cap := by
    rcases hown'.2 with ⟨_, h0⟩ | ⟨g, cap, cur, hv, _⟩
    · omega
    · exact ⟨g, cap, hv⟩
  have hA := Bld.appended (l' := [c]) (o := some (.cells #[.int .u8 c.toNat] 5)) hB HH.out HO.out (by simpa [Lib.byteCells] using hown') hgrow
  have d1 := cellv hA.1 1 rfl
  have d2 := free_heap hA.1 1
  have HA := Lib.hid hA
  clear hown' hgrow hA
  go_wp2_with fail
  go_ret
  exact ⟨rfl, HA.out.2.1, HK.out.trans HA.out.2.2⟩

set_option maxHeartbeats 2000000 in
set_option maxRecDepth 100000 in
theorem writeString_any (base b : Nat) (l : List UInt8) (s : ByteArray) (w : World) (h : Bld base b l w) (hlen : l.length + s.size ≤ 140737488355328) :
    Calls Tryd.prog 82 #[.pointer (some ⟨b, 0, none⟩), .string s] w fun e w' => e = .returned (.tuple #[.int .i64 s.size, .nilIface]) ∧ Bld base b (l ++ s.data.toList) w' ∧ KeepB base b w w' := by
  obtain ⟨i0, hi, hz0, hz1, hz2⟩ := info_parts infoByte
  have hB := h.1
  go_enter Tryd.func82, Tryd.ntmps82
  go_wp2_with fail
  refine (copyCheck_any base b l _ h).mono ?_
  rintro e w1 ⟨rfl, ⟨v, hh, hown⟩, hk, hsz⟩
  have c1 := cellv hh 1 rfl
  have c2 := free_heap hh 1
  have hlt := lt_heap hh
  have HO := Lib.hid hown
  have HH := Lib.hid hh
  have HK := Lib.hid hk
  have HSZ := Lib.hid hsz
  have H := Lib.hid h
  clear hh hown hk hsz h
  go_wp2_with (at_builtin; refine Lib.wpList_append_own_string _ rfl _ _ 82 9 rfl base 5 i0 Tryd.underlying82 Tryd.underlying9 hi hz0 hz1 hz2 _ _ _ rfl HO.out s rfl ?c3 ?c4 ?c5 ?_)
  case c3 => unfold maxLen; omega
  case c4 => omega
  case c5 => omega
  intro v' w2 hown' hgrow _
  obtain ⟨ao, n', cap, rfl⟩ : ∃ ao n' cap, v' = .slice ao n' cap := by
    rcases hown'.2 with ⟨hv, h0⟩ | ⟨g, cap, cur, hv, _⟩
    · exact ⟨_, _, _, hv⟩
    · exact ⟨_, _, _, hv⟩
  have hA := Bld.appended (l' := s.data.toList) (o := none) hB HH.out HO.out (by simpa [Lib.byteCells, Lib.strCells] using hown') hgrow
  have d1 := cellv hA.1 1 rfl
  have d2 := free_heap hA.1 1
  have HA := Lib.hid hA
  clear hown' hgrow hA
  go_wp2_with fail
  go_ret2
  exact ⟨rfl, HA.out.2.1, HK.out.trans HA.out.2.2⟩

end Go.Proofs.YtdofemkfmkopcaaDoor
