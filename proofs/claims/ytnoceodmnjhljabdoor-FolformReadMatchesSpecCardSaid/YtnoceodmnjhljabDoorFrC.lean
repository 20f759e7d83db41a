/-
  FormRead by parts: a name.
-/
import Derived.Test.YtnoceodmnjhljabDoorFrB
import Derived.Deep.DeepCutAuto
import Derived.Deep.RegionLaw
import Derived.BigQuiet
namespace Go.Proofs.YtnoceodmnjhljabDoor
open Go Go.RowKit
set_option linter.unusedSimpArgs false
set_option linter.unusedVariables false

/-- A predicate that is being read lies in the box D: its words so far. -/
structure PredF (w wo wx : World) (frs : List F5) (Aq : Option Addr) (cq D : Nat) (a : ByteArray) (l : List ByteArray) (v : Value) : Prop where
  m : GMem w wx frs Aq cq D
  d : wx.heap[D]? = some (.cells #[.int .i64 2, .string a, v, .slice none 0 0] 34 (0, 0))
  o : strRep.Own 9 wo.heap.size wx (fun b => wo.heap.size ≤ b ∧ b < wx.heap.size) v l
  le : wo.heap.size ≤ wx.heap.size
theorem infoStr : (Tryd.prog.info? 9).map (fun i => (i.zero, i.size, i.bytes)) = some (some (.string ⟨#[]⟩), 1, 16) := by kernel_rfl
noncomputable def c_fr_f35r : Code := sub [1, 1, 1, 1, 1, 0, 0, 0, 1, 1, 1, 1, 1, 1, 1, 0, 1, 0, 1, 1, 1, 0] (Tryd.f12.body.getD .skip)
set_option maxRecDepth 1000000 in
set_option maxHeartbeats 16000000 in
theorem fr_f35r_wp {Q : Exit → Act → World → Prop} {x : ByteArray} {w : World} {frs : List F5} {Aq : Option Addr} {cq i n b D : Nat} {wo : World} {kd : Int} {v1 v2 v3 : Value} (hd : wo.heap[D]? = some (.cells #[.int .i64 kd, v1, v2, v3] 34 (0, 0))) (hN : ∀ a', Frm 464 [(0, .string x), (2, .pointer (some ⟨w.heap.size, 0, none⟩)), (3, .pointer (some ⟨w.heap.size + 1, 0, none⟩)), (4, .pointer (some ⟨w.heap.size + 2, 0, none⟩)), (5, .slice Aq frs.length cq), (6, .int .i64 (i : Nat)), (7, .int .i64 (n : Nat)), (8, .int .u8 (b : Nat)), (9, .pointer (some ⟨D, 0, none⟩)), (185, .bool (decide (kd = 0)))] a' → Q .normal a' wo) : ∀ ac, Frm 464 [(0, .string x), (2, .pointer (some ⟨w.heap.size, 0, none⟩)), (3, .pointer (some ⟨w.heap.size + 1, 0, none⟩)), (4, .pointer (some ⟨w.heap.size + 2, 0, none⟩)), (5, .slice Aq frs.length cq), (6, .int .i64 (i : Nat)), (7, .int .i64 (n : Nat)), (8, .int .u8 (b : Nat)), (9, .pointer (some ⟨D, 0, none⟩))] ac → Code.wp Tryd.prog c_fr_f35r Q ac wo := by
  refine frm_open ?_
  refine frame_fr ?_
  intros
  rename_i hq
  obtain ⟨-, -, e0q, e1q, e2q, e3q, e4q, e5q, e6q, e7q, e8q, -⟩ := hq
  have e0q := (Option.some.inj e0q).symm; subst e0q
  have e1q := (Option.some.inj e1q).symm; subst e1q
  have e2q := (Option.some.inj e2q).symm; subst e2q
  have e3q := (Option.some.inj e3q).symm; subst e3q
  have e4q := (Option.some.inj e4q).symm; subst e4q
  have e5q := (Option.some.inj e5q).symm; subst e5q
  have e6q := (Option.some.inj e6q).symm; subst e6q
  have e7q := (Option.some.inj e7q).symm; subst e7q
  have e8q := (Option.some.inj e8q).symm; subst e8q
  conv => arg 2; whnf
  have HN := Lib.hid hN
  clear hN
  have pd := hd
  clear hd
  have pd0 := cellv pd 0 rfl
  have pdl := lt_heap pd
  clear pd
  by_cases hk : kd = 0
  · have q1 : (kd == 0) = true := by rw [hk]; rfl
    rw [show decide (kd = 0) = true from decide_eq_true hk] at HN
    clear hk
    go_wp2_with fail
    exact HN.out _ (id ⟨rfl, rfl, rfl, rfl, rfl, rfl, rfl, rfl, rfl, rfl, rfl, rfl, trivial⟩)
  · have q1 : (kd == 0) = false := beq_eq_false_iff_ne.2 hk
    rw [show decide (kd = 0) = false from decide_eq_false hk] at HN
    clear hk
    go_wp2_with fail
    exact HN.out _ (id ⟨rfl, rfl, rfl, rfl, rfl, rfl, rfl, rfl, rfl, rfl, rfl, rfl, trivial⟩)
noncomputable def c_fr_f36 : Code := sub [1, 1, 1, 1, 1, 0, 0, 0, 1, 1, 1, 1, 1, 1, 1, 0, 1, 0, 1, 1, 1, 1, 0] (Tryd.f12.body.getD .skip)
set_option maxRecDepth 1000000 in
set_option maxHeartbeats 16000000 in
theorem fr_f36_wp {Q : Exit → Act → World → Prop} {x : ByteArray} {w : World} {frs : List F5} {Aq : Option Addr} {cq i n b D : Nat} {wo : World} (hx4 : x.size ≤ 4000) (hi : i ≤ x.size) (hl : frs.length ≤ 39) (hm : GMem w wo frs Aq cq (D)) (hD : D < wo.heap.size) (hblk : ∀ b, (Value.slice Aq frs.length cq).ownBlock = some b → w.heap.size + 3 ≤ b ∧ b < D) (hX : ∀ (gg cap : Nat) a' w', Frm 464 [(0, .string x), (2, .pointer (some ⟨w.heap.size, 0, none⟩)), (3, .pointer (some ⟨w.heap.size + 1, 0, none⟩)), (4, .pointer (some ⟨w.heap.size + 2, 0, none⟩)), (5, .slice (some ⟨gg, 0, none⟩) (frs.length + 1) cap), (6, .int .i64 (i + 1 : Nat)), (7, .int .i64 (n : Nat))] a' → GMem w w' (⟨.par0, .slice none 0 0⟩ :: frs) (some ⟨gg, 0, none⟩) cap w'.heap.size → Q (.exit 1) a' w') : ∀ ac, Frm 464 [(0, .string x), (2, .pointer (some ⟨w.heap.size, 0, none⟩)), (3, .pointer (some ⟨w.heap.size + 1, 0, none⟩)), (4, .pointer (some ⟨w.heap.size + 2, 0, none⟩)), (5, .slice Aq frs.length cq), (6, .int .i64 (i : Nat)), (7, .int .i64 (n : Nat)), (8, .int .u8 (b : Nat)), (9, .pointer (some ⟨D, 0, none⟩))] ac → Code.wp Tryd.prog c_fr_f36 Q ac wo := by
  refine frm_open ?_
  refine frame_fr ?_
  intros
  rename_i hq
  obtain ⟨-, -, e0q, e1q, e2q, e3q, e4q, e5q, e6q, e7q, e8q, -⟩ := hq
  have e0q := (Option.some.inj e0q).symm; subst e0q
  have e1q := (Option.some.inj e1q).symm; subst e1q
  have e2q := (Option.some.inj e2q).symm; subst e2q
  have e3q := (Option.some.inj e3q).symm; subst e3q
  have e4q := (Option.some.inj e4q).symm; subst e4q
  have e5q := (Option.some.inj e5q).symm; subst e5q
  have e6q := (Option.some.inj e6q).symm; subst e6q
  have e7q := (Option.some.inj e7q).symm; subst e7q
  have e8q := (Option.some.inj e8q).symm; subst e8q
  conv => arg 2; whnf
  have HX := Lib.hid hX
  clear hX
  obtain ⟨ti, hti, htz0, htz1, htz2⟩ := info_parts infoFrameF
  have hbz := GsOk.base hm.fs
  obtain ⟨hown, hfrs, ⟨pz, pf, pn⟩, hB⟩ := hm
  have HOWN := Lib.hid hown
  have HFRS := Lib.hid hfrs
  have HB := Lib.hid hB
  have HBLK := Lib.hid hblk
  clear hown hfrs hB hblk
  have pz_0 := cv0 pz
  have pz_1 := cv1 pz
  have pz_2 := cv2 pz
  have pz_3 := cv3 pz
  have pz_f0 := free_heap pz 0
  have pz_f1 := free_heap pz 1
  have pz_f2 := free_heap pz 2
  have pz_f3 := free_heap pz 3
  have pz_l := lt_heap pz
  have PZ := Lib.hid pz
  clear pz
  have pf_0 := cv0 pf
  have pf_1 := cv1 pf
  have pf_f0 := free_heap pf 0
  have pf_f1 := free_heap pf 1
  have pf_l := lt_heap pf
  have PF := Lib.hid pf
  clear pf
  have pn_0 := cv0 pn
  have pn_1 := cv1 pn
  have pn_2 := cv2 pn
  have pn_3 := cv3 pn
  have pn_l := lt_heap pn
  have PN := Lib.hid pn
  clear pn
  have hi1 : ((i : Int) + 1) = ((i + 1 : Nat) : Int) := by omega
  have HI1 := Lib.hid hi1
  clear hi1
  go_wp2_with (at_builtin; refine wpList_append_lies (wo.alloc (.cells #[.int .i64 0, .string ⟨#[]⟩, .slice none 0 0, .slice none 0 0, .bool true] 63)) ?h1 (.tmp 186) (.tmp 189) 61 ?h2 (w.heap.size + 3) 63 ti (.agg #[.int .i64 0, .string ⟨#[]⟩, .slice none 0 0, .slice none 0 0, .bool false]) 5 80 ?h3 hti htz0 htz1 htz2 ?h4 ?h5 (.slice Aq frs.length cq) frs.length (f5Cells frs) ?h6 ?h7 ⟨wo.heap.size, 0, none⟩ 1 1 [.int .i64 0, .string ⟨#[]⟩, .slice none 0 0, .slice none 0 0, .bool true] ?h8 ?h9 ?h10 ?h11 ?h12 ?h13 ?h14 ?h15 (wo.heap.size + 1) ?h16 ?_)
  try (case h1 => rfl)
  try (case h2 => rfl)
  try (case h3 => exact Tryd.underlying61)
  try (case h4 => rfl)
  try (case h5 => omega)
  try (case h6 => rfl)
  try (case h7 => exact HOWN.out.alloc _)
  try (case h8 => rfl)
  try (case h9 => rfl)
  try (case h10 => exact World.news_of_block (cs := #[.int .i64 0, .string ⟨#[]⟩, .slice none 0 0, .slice none 0 0, .bool true]) (t := 63) (fr := (0, 0)) (heap_alloc_new wo _))
  try (case h11 => simp [Value.oneCell'])
  try (case h12 => omega)
  try (case h13 => first | (simp [maxLen]; omega) | (unfold maxLen; omega))
  try (case h14 => omega)
  try (case h15 => first | omega | (simp; omega))
  try (case h16 => first | rfl | simp)
  intro gg cap w6 hown3 hgrow hat hlt
  have z6 : wo.heap.size + 1 ≤ w6.heap.size := by have := hgrow.size; simpa using this
  have HOWN3 := Lib.hid hown3
  have HGROW := Lib.hid hgrow
  have HAT := Lib.hid hat
  clear hown3 hgrow hat
  go_wp2_with fail
  rw [HI1.out]
  refine HX.out gg cap _ _ (id ⟨rfl, rfl, rfl, rfl, rfl, rfl, rfl, rfl, rfl, trivial⟩) ?_
  have hkeep : ∀ b, b < wo.heap.size → (Value.slice Aq frs.length cq).ownBlock ≠ some b → w6.heap[b]? = wo.heap[b]? := fun b hb hne => (HGROW.out.block b (by simp; omega) (fun e => hne e.symm)).trans (heap_old hb rfl)
  refine ⟨?_, ?_, ⟨?_, ?_, ?_⟩, ?_⟩
  · rw [f5Cells_cons]; exact HOWN3.out
  · refine GsOk.push (HFRS.out.keep (fun b h1 h2 h3 => hkeep b (by omega) h3) (fun b hb e => ?_) (by omega)) rfl (by decide +kernel)
    rcases HAT.out with h | h
    · rw [h]; exact e
    · simp only [Value.ownBlock, Option.some.injEq] at e; omega
  · exact (hkeep _ (by omega) (fun e => by have := HBLK.out _ e; omega)).trans PZ.out
  · exact (hkeep _ (by omega) (fun e => by have := HBLK.out _ e; omega)).trans PF.out
  · exact (hkeep _ (by omega) (fun e => by have := HBLK.out _ e; omega)).trans PN.out
  · exact (HB.out.alloc (by omega) _).grown HGROW.out (by simp; omega) (fun k hk => by have := HBLK.out k hk; omega)
noncomputable def c_fr_f38 : Code := sub [1, 1, 1, 1, 1, 0, 0, 0, 1, 1, 1, 1, 1, 1, 1, 0, 1, 1, 0] (Tryd.f12.body.getD .skip)
set_option maxRecDepth 1000000 in
set_option maxHeartbeats 16000000 in
theorem fr_f38_wp {Q : Exit → Act → World → Prop} {x : ByteArray} {w : World} {frs : List F5} {Aq : Option Addr} {cq i n b D : Nat} {wo : World} (hx4 : x.size ≤ 4000) (hi : i ≤ x.size) (hN : ∀ a', Frm 464 [(0, .string x), (2, .pointer (some ⟨w.heap.size, 0, none⟩)), (3, .pointer (some ⟨w.heap.size + 1, 0, none⟩)), (4, .pointer (some ⟨w.heap.size + 2, 0, none⟩)), (5, .slice Aq frs.length cq), (6, .int .i64 (i : Nat)), (7, .int .i64 (n : Nat)), (8, .int .u8 (b : Nat)), (9, .pointer (some ⟨D, 0, none⟩)), (16, .string (x.extract i (nameE x i)))] a' → Q .normal a' wo) : ∀ ac, Frm 464 [(0, .string x), (2, .pointer (some ⟨w.heap.size, 0, none⟩)), (3, .pointer (some ⟨w.heap.size + 1, 0, none⟩)), (4, .pointer (some ⟨w.heap.size + 2, 0, none⟩)), (5, .slice Aq frs.length cq), (6, .int .i64 (i : Nat)), (7, .int .i64 (n : Nat)), (8, .int .u8 (b : Nat)), (9, .pointer (some ⟨D, 0, none⟩))] ac → Code.wp Tryd.prog c_fr_f38 Q ac wo := by
  refine frm_open ?_
  refine frame_fr ?_
  intros
  rename_i hq
  obtain ⟨-, -, e0q, e1q, e2q, e3q, e4q, e5q, e6q, e7q, e8q, -⟩ := hq
  have e0q := (Option.some.inj e0q).symm; subst e0q
  have e1q := (Option.some.inj e1q).symm; subst e1q
  have e2q := (Option.some.inj e2q).symm; subst e2q
  have e3q := (Option.some.inj e3q).symm; subst e3q
  have e4q := (Option.some.inj e4q).symm; subst e4q
  have e5q := (Option.some.inj e5q).symm; subst e5q
  have e6q := (Option.some.inj e6q).symm; subst e6q
  have e7q := (Option.some.inj e7q).symm; subst e7q
  have e8q := (Option.some.inj e8q).symm; subst e8q
  conv => arg 2; whnf
  have HN := Lib.hid hN
  clear hN
  have hwd := word_any x i wo hx4 hi
  have HWD := Lib.hid hwd
  clear hwd
  go_wp2_with fail
  (with_reducible refine HWD.out.mono ?_)
  rintro e w' ⟨rfl, rfl⟩
  go_wp2_with fail
  exact HN.out _ (id ⟨rfl, rfl, rfl, rfl, rfl, rfl, rfl, rfl, rfl, rfl, rfl, rfl, trivial⟩)
noncomputable def c_fr_f39 : Code := sub [1, 1, 1, 1, 1, 0, 0, 0, 1, 1, 1, 1, 1, 1, 1, 0, 1, 1, 1, 0] (Tryd.f12.body.getD .skip)
set_option maxRecDepth 1000000 in
set_option maxHeartbeats 16000000 in
theorem fr_f39_wp {Q : Exit → Act → World → Prop} {x : ByteArray} {w : World} {frs : List F5} {Aq : Option Addr} {cq i n b D : Nat} {a : ByteArray} {e : Nat} {wo : World} (he : i + a.size = e) (h4 : e ≤ 9000) (hN : ∀ a', Frm 464 [(0, .string x), (2, .pointer (some ⟨w.heap.size, 0, none⟩)), (3, .pointer (some ⟨w.heap.size + 1, 0, none⟩)), (4, .pointer (some ⟨w.heap.size + 2, 0, none⟩)), (5, .slice Aq frs.length cq), (6, .int .i64 (i : Nat)), (7, .int .i64 (n : Nat)), (8, .int .u8 (b : Nat)), (9, .pointer (some ⟨D, 0, none⟩)), (16, .string a), (17, .int .i64 (e : Nat))] a' → Q .normal a' wo) : ∀ ac, Frm 464 [(0, .string x), (2, .pointer (some ⟨w.heap.size, 0, none⟩)), (3, .pointer (some ⟨w.heap.size + 1, 0, none⟩)), (4, .pointer (some ⟨w.heap.size + 2, 0, none⟩)), (5, .slice Aq frs.length cq), (6, .int .i64 (i : Nat)), (7, .int .i64 (n : Nat)), (8, .int .u8 (b : Nat)), (9, .pointer (some ⟨D, 0, none⟩)), (16, .string a)] ac → Code.wp Tryd.prog c_fr_f39 Q ac wo := by
  refine frm_open ?_
  refine frame_fr ?_
  intros
  rename_i hq
  obtain ⟨-, -, e0q, e1q, e2q, e3q, e4q, e5q, e6q, e7q, e8q, e9q, -⟩ := hq
  have e0q := (Option.some.inj e0q).symm; subst e0q
  have e1q := (Option.some.inj e1q).symm; subst e1q
  have e2q := (Option.some.inj e2q).symm; subst e2q
  have e3q := (Option.some.inj e3q).symm; subst e3q
  have e4q := (Option.some.inj e4q).symm; subst e4q
  have e5q := (Option.some.inj e5q).symm; subst e5q
  have e6q := (Option.some.inj e6q).symm; subst e6q
  have e7q := (Option.some.inj e7q).symm; subst e7q
  have e8q := (Option.some.inj e8q).symm; subst e8q
  have e9q := (Option.some.inj e9q).symm; subst e9q
  conv => arg 2; whnf
  have HN := Lib.hid hN
  clear hN
  have hw : (i : Int) + (a.size : Int) = ((e : Nat) : Int) := by omega
  have HW := Lib.hid hw
  clear hw
  go_wp2_with fail
  rw [HW.out]
  exact HN.out _ (id ⟨rfl, rfl, rfl, rfl, rfl, rfl, rfl, rfl, rfl, rfl, rfl, rfl, rfl, trivial⟩)
noncomputable def c_fr_f40 : Code := sub [1, 1, 1, 1, 1, 0, 0, 0, 1, 1, 1, 1, 1, 1, 1, 0, 1, 1, 1, 1, 0] (Tryd.f12.body.getD .skip)
set_option maxRecDepth 1000000 in
set_option maxHeartbeats 16000000 in
theorem fr_f40_wp {Q : Exit → Act → World → Prop} {x : ByteArray} {w : World} {frs : List F5} {Aq : Option Addr} {cq i n b D : Nat} {a : ByteArray} {e : Nat} {wo : World} (hN : ∀ a', Frm 464 [(0, .string x), (2, .pointer (some ⟨w.heap.size, 0, none⟩)), (3, .pointer (some ⟨w.heap.size + 1, 0, none⟩)), (4, .pointer (some ⟨w.heap.size + 2, 0, none⟩)), (5, .slice Aq frs.length cq), (6, .int .i64 (i : Nat)), (7, .int .i64 (n : Nat)), (8, .int .u8 (b : Nat)), (9, .pointer (some ⟨D, 0, none⟩)), (16, .string a), (17, .int .i64 (e : Nat)), (18, .int .u8 0)] a' → Q .normal a' wo) : ∀ ac, Frm 464 [(0, .string x), (2, .pointer (some ⟨w.heap.size, 0, none⟩)), (3, .pointer (some ⟨w.heap.size + 1, 0, none⟩)), (4, .pointer (some ⟨w.heap.size + 2, 0, none⟩)), (5, .slice Aq frs.length cq), (6, .int .i64 (i : Nat)), (7, .int .i64 (n : Nat)), (8, .int .u8 (b : Nat)), (9, .pointer (some ⟨D, 0, none⟩)), (16, .string a), (17, .int .i64 (e : Nat))] ac → Code.wp Tryd.prog c_fr_f40 Q ac wo := by
  refine frm_open ?_
  refine frame_fr ?_
  intros
  rename_i hq
  obtain ⟨-, -, e0q, e1q, e2q, e3q, e4q, e5q, e6q, e7q, e8q, e9q, e10q, -⟩ := hq
  have e0q := (Option.some.inj e0q).symm; subst e0q
  have e1q := (Option.some.inj e1q).symm; subst e1q
  have e2q := (Option.some.inj e2q).symm; subst e2q
  have e3q := (Option.some.inj e3q).symm; subst e3q
  have e4q := (Option.some.inj e4q).symm; subst e4q
  have e5q := (Option.some.inj e5q).symm; subst e5q
  have e6q := (Option.some.inj e6q).symm; subst e6q
  have e7q := (Option.some.inj e7q).symm; subst e7q
  have e8q := (Option.some.inj e8q).symm; subst e8q
  have e9q := (Option.some.inj e9q).symm; subst e9q
  have e10q := (Option.some.inj e10q).symm; subst e10q
  conv => arg 2; whnf
  have HN := Lib.hid hN
  clear hN
  go_wp2_with fail
  exact HN.out _ (id ⟨rfl, rfl, rfl, rfl, rfl, rfl, rfl, rfl, rfl, rfl, rfl, rfl, rfl, rfl, trivial⟩)
noncomputable def c_fr_f203 : Code := sub [1, 1, 1, 1, 1, 0, 0, 0, 1, 1, 1, 1, 1, 1, 1, 0, 1, 1, 1, 1, 1, 0] (Tryd.f12.body.getD .skip)
set_option maxRecDepth 1000000 in
set_option maxHeartbeats 16000000 in
theorem fr_f203_wp {Q : Exit → Act → World → Prop} {x : ByteArray} {w : World} {frs : List F5} {Aq : Option Addr} {cq i n b D : Nat} {a : ByteArray} {e : Nat} {wo : World} (hN : ∀ a', Frm 464 [(0, .string x), (2, .pointer (some ⟨w.heap.size, 0, none⟩)), (3, .pointer (some ⟨w.heap.size + 1, 0, none⟩)), (4, .pointer (some ⟨w.heap.size + 2, 0, none⟩)), (5, .slice Aq frs.length cq), (6, .int .i64 (i : Nat)), (7, .int .i64 (n : Nat)), (8, .int .u8 (b : Nat)), (9, .pointer (some ⟨D, 0, none⟩)), (16, .string a), (17, .int .i64 (e : Nat)), (18, .int .u8 (byteAt x e : Nat))] a' → Q .normal a' wo) : ∀ ac, Frm 464 [(0, .string x), (2, .pointer (some ⟨w.heap.size, 0, none⟩)), (3, .pointer (some ⟨w.heap.size + 1, 0, none⟩)), (4, .pointer (some ⟨w.heap.size + 2, 0, none⟩)), (5, .slice Aq frs.length cq), (6, .int .i64 (i : Nat)), (7, .int .i64 (n : Nat)), (8, .int .u8 (b : Nat)), (9, .pointer (some ⟨D, 0, none⟩)), (16, .string a), (17, .int .i64 (e : Nat)), (18, .int .u8 0)] ac → Code.wp Tryd.prog c_fr_f203 Q ac wo := by
  refine frm_open ?_
  refine frame_fr ?_
  intros
  rename_i hq
  obtain ⟨-, -, e0q, e1q, e2q, e3q, e4q, e5q, e6q, e7q, e8q, e9q, e10q, e11q, -⟩ := hq
  have e0q := (Option.some.inj e0q).symm; subst e0q
  have e1q := (Option.some.inj e1q).symm; subst e1q
  have e2q := (Option.some.inj e2q).symm; subst e2q
  have e3q := (Option.some.inj e3q).symm; subst e3q
  have e4q := (Option.some.inj e4q).symm; subst e4q
  have e5q := (Option.some.inj e5q).symm; subst e5q
  have e6q := (Option.some.inj e6q).symm; subst e6q
  have e7q := (Option.some.inj e7q).symm; subst e7q
  have e8q := (Option.some.inj e8q).symm; subst e8q
  have e9q := (Option.some.inj e9q).symm; subst e9q
  have e10q := (Option.some.inj e10q).symm; subst e10q
  have e11q := (Option.some.inj e11q).symm; subst e11q
  conv => arg 2; whnf
  have HN := Lib.hid hN
  clear hN
  by_cases hi : e < x.size
  · have q1 : (e : Int) < (x.size : Int) := by omega
    have q0 : (0 : Int) ≤ (e : Int) := by omega
    rw [show byteAt x e = (x[e]'hi).toNat from byteAt_in hi] at HN
    go_wp2_with fail
    exact HN.out _ (id ⟨rfl, rfl, rfl, rfl, rfl, rfl, rfl, rfl, rfl, rfl, rfl, rfl, rfl, rfl, trivial⟩)
  · have q1 : ¬ (e : Int) < (x.size : Int) := by omega
    rw [show byteAt x e = 0 from byteAt_out (by omega)] at HN
    go_wp2_with fail
    exact HN.out _ (id ⟨rfl, rfl, rfl, rfl, rfl, rfl, rfl, rfl, rfl, rfl, rfl, rfl, rfl, rfl, trivial⟩)
noncomputable def c_fr_f43 : Code := sub [1, 1, 1, 1, 1, 0, 0, 0, 1, 1, 1, 1, 1, 1, 1, 0, 1, 1, 1, 1, 1, 1, 0] (Tryd.f12.body.getD .skip)
set_option maxRecDepth 1000000 in
set_option maxHeartbeats 16000000 in
theorem fr_f43_wp {Q : Exit → Act → World → Prop} {x : ByteArray} {w : World} {frs : List F5} {Aq : Option Addr} {cq i n b D : Nat} {a : ByteArray} {e c2 : Nat} {wo : World}  (hN : ∀ a', Frm 464 [(0, .string x), (2, .pointer (some ⟨w.heap.size, 0, none⟩)), (3, .pointer (some ⟨w.heap.size + 1, 0, none⟩)), (4, .pointer (some ⟨w.heap.size + 2, 0, none⟩)), (5, .slice Aq frs.length cq), (6, .int .i64 (i : Nat)), (7, .int .i64 (n : Nat)), (8, .int .u8 (b : Nat)), (9, .pointer (some ⟨D, 0, none⟩)), (16, .string a), (17, .int .i64 (e : Nat)), (18, .int .u8 (c2 : Nat)), (208, .bool (decide (c2 = 40)))] a' → Q .normal a' wo) : ∀ ac, Frm 464 [(0, .string x), (2, .pointer (some ⟨w.heap.size, 0, none⟩)), (3, .pointer (some ⟨w.heap.size + 1, 0, none⟩)), (4, .pointer (some ⟨w.heap.size + 2, 0, none⟩)), (5, .slice Aq frs.length cq), (6, .int .i64 (i : Nat)), (7, .int .i64 (n : Nat)), (8, .int .u8 (b : Nat)), (9, .pointer (some ⟨D, 0, none⟩)), (16, .string a), (17, .int .i64 (e : Nat)), (18, .int .u8 (c2 : Nat))] ac → Code.wp Tryd.prog c_fr_f43 Q ac wo := by
  refine frm_open ?_
  refine frame_fr ?_
  intros
  rename_i hq
  obtain ⟨-, -, e0q, e1q, e2q, e3q, e4q, e5q, e6q, e7q, e8q, e9q, e10q, e11q, -⟩ := hq
  have e0q := (Option.some.inj e0q).symm; subst e0q
  have e1q := (Option.some.inj e1q).symm; subst e1q
  have e2q := (Option.some.inj e2q).symm; subst e2q
  have e3q := (Option.some.inj e3q).symm; subst e3q
  have e4q := (Option.some.inj e4q).symm; subst e4q
  have e5q := (Option.some.inj e5q).symm; subst e5q
  have e6q := (Option.some.inj e6q).symm; subst e6q
  have e7q := (Option.some.inj e7q).symm; subst e7q
  have e8q := (Option.some.inj e8q).symm; subst e8q
  have e9q := (Option.some.inj e9q).symm; subst e9q
  have e10q := (Option.some.inj e10q).symm; subst e10q
  have e11q := (Option.some.inj e11q).symm; subst e11q
  conv => arg 2; whnf
  have HN := Lib.hid hN
  clear hN

  by_cases h40 : c2 = 40
  · have t1 : (((c2 : Nat) : Int) == 40) = true := by rw [h40]; rfl
    rw [show decide (c2 = 40) = true from decide_eq_true h40] at HN
    clear h40
    go_wp2_with fail
    exact HN.out _ (id ⟨rfl, rfl, rfl, rfl, rfl, rfl, rfl, rfl, rfl, rfl, rfl, rfl, rfl, rfl, rfl, trivial⟩)
  · have t1 : (((c2 : Nat) : Int) == 40) = false := beq_eq_false_iff_ne.2 (by omega)
    rw [show decide (c2 = 40) = false from decide_eq_false h40] at HN
    clear h40
    go_wp2_with fail
    exact HN.out _ (id ⟨rfl, rfl, rfl, rfl, rfl, rfl, rfl, rfl, rfl, rfl, rfl, rfl, rfl, rfl, rfl, trivial⟩)
noncomputable def c_fr_f44 : Code := sub [1, 1, 1, 1, 1, 0, 0, 0, 1, 1, 1, 1, 1, 1, 1, 0, 1, 1, 1, 1, 1, 1, 1, 0, 0] (Tryd.f12.body.getD .skip)
set_option maxRecDepth 1000000 in
set_option maxHeartbeats 16000000 in
theorem fr_f44_wp {Q : Exit → Act → World → Prop} {x : ByteArray} {w : World} {frs : List F5} {Aq : Option Addr} {cq i n b D : Nat} {a : ByteArray} {e : Nat} {wo : World} (hm : GMem w wo frs Aq cq (D)) (hD : D < wo.heap.size) (hblk : ∀ b, (Value.slice Aq frs.length cq).ownBlock = some b → w.heap.size + 3 ≤ b ∧ b < D) (hd : wo.heap[D]? = some (.cells #[.int .i64 0, .string ⟨#[]⟩, .slice none 0 0, .slice none 0 0] 34 (0, 0))) (hN : ∀ a' wx, Frm 464 [(0, .string x), (2, .pointer (some ⟨w.heap.size, 0, none⟩)), (3, .pointer (some ⟨w.heap.size + 1, 0, none⟩)), (4, .pointer (some ⟨w.heap.size + 2, 0, none⟩)), (5, .slice Aq frs.length cq), (6, .int .i64 (i : Nat)), (7, .int .i64 (n : Nat)), (8, .int .u8 (b : Nat)), (9, .pointer (some ⟨D, 0, none⟩)), (16, .string a), (17, .int .i64 (e : Nat))] a' → PredF w wo wx frs Aq cq D a [] (.slice none 0 0) → Q .normal a' wx) : ∀ ac, Frm 464 [(0, .string x), (2, .pointer (some ⟨w.heap.size, 0, none⟩)), (3, .pointer (some ⟨w.heap.size + 1, 0, none⟩)), (4, .pointer (some ⟨w.heap.size + 2, 0, none⟩)), (5, .slice Aq frs.length cq), (6, .int .i64 (i : Nat)), (7, .int .i64 (n : Nat)), (8, .int .u8 (b : Nat)), (9, .pointer (some ⟨D, 0, none⟩)), (16, .string a), (17, .int .i64 (e : Nat))] ac → Code.wp Tryd.prog c_fr_f44 Q ac wo := by
  refine frm_open ?_
  refine frame_fr ?_
  intros
  rename_i hq
  obtain ⟨-, -, e0q, e1q, e2q, e3q, e4q, e5q, e6q, e7q, e8q, e9q, e10q, -⟩ := hq
  have e0q := (Option.some.inj e0q).symm; subst e0q
  have e1q := (Option.some.inj e1q).symm; subst e1q
  have e2q := (Option.some.inj e2q).symm; subst e2q
  have e3q := (Option.some.inj e3q).symm; subst e3q
  have e4q := (Option.some.inj e4q).symm; subst e4q
  have e5q := (Option.some.inj e5q).symm; subst e5q
  have e6q := (Option.some.inj e6q).symm; subst e6q
  have e7q := (Option.some.inj e7q).symm; subst e7q
  have e8q := (Option.some.inj e8q).symm; subst e8q
  have e9q := (Option.some.inj e9q).symm; subst e9q
  have e10q := (Option.some.inj e10q).symm; subst e10q
  conv => arg 2; whnf
  have HN := Lib.hid hN
  clear hN
  have hbz := GsOk.base hm.fs
  obtain ⟨hown, hfrs, ⟨pz, pf, pn⟩, hB⟩ := hm
  have HOWN := Lib.hid hown
  have HFRS := Lib.hid hfrs
  have HB := Lib.hid hB
  have HBLK := Lib.hid hblk
  clear hown hfrs hB hblk
  have pz_0 := cv0 pz
  have pz_1 := cv1 pz
  have pz_2 := cv2 pz
  have pz_3 := cv3 pz
  have pz_f0 := free_heap pz 0
  have pz_f1 := free_heap pz 1
  have pz_f2 := free_heap pz 2
  have pz_f3 := free_heap pz 3
  have pz_l := lt_heap pz
  have PZ := Lib.hid pz
  clear pz
  have pf_0 := cv0 pf
  have pf_1 := cv1 pf
  have pf_f0 := free_heap pf 0
  have pf_f1 := free_heap pf 1
  have pf_l := lt_heap pf
  have PF := Lib.hid pf
  clear pf
  have pn_0 := cv0 pn
  have pn_1 := cv1 pn
  have pn_2 := cv2 pn
  have pn_3 := cv3 pn
  have pn_l := lt_heap pn
  have PN := Lib.hid pn
  clear pn
  have pd := hd
  clear hd
  have pd_0 := cv0 pd
  have pd_1 := cv1 pd
  have pd_2 := cv2 pd
  have pd_3 := cv3 pd
  have pd_f0 := free_heap pd 0
  have pd_f1 := free_heap pd 1
  have pd_f2 := free_heap pd 2
  have pd_f3 := free_heap pd 3
  have pd_l := lt_heap pd
  have PD := Lib.hid pd
  clear pd
  go_wp2_with fail
  have hnD : (Value.slice Aq frs.length cq).ownBlock ≠ some D := fun e => by have := (HBLK.out D e).2; omega
  refine gen_last (fun wx => PredF w wo wx frs Aq cq D a [] (.slice none 0 0)) ?_ (fun wx h9 => by exact HN.out _ wx (id ⟨rfl, rfl, rfl, rfl, rfl, rfl, rfl, rfl, rfl, rfl, rfl, rfl, rfl, trivial⟩) h9)
  exact ⟨⟨oth4 (i := 0) hnD HOWN.out, HFRS.out.keep (fun b h1 h2 h3 => far4 (by omega) rfl) (fun _ _ e => e) (Nat.le_refl _), ⟨far4 (by omega) PZ.out, far4 (by omega) PF.out, far4 (by omega) PN.out⟩, below4 HB.out (by omega)⟩, at4 PD.out, Rep.Own.nil, le4 (Nat.le_refl _)⟩
noncomputable def c_fr_f45 : Code := sub [1, 1, 1, 1, 1, 0, 0, 0, 1, 1, 1, 1, 1, 1, 1, 0, 1, 1, 1, 1, 1, 1, 1, 0, 1, 0] (Tryd.f12.body.getD .skip)
set_option maxRecDepth 1000000 in
set_option maxHeartbeats 16000000 in
theorem fr_f45_wp {Q : Exit → Act → World → Prop} {x : ByteArray} {w : World} {frs : List F5} {Aq : Option Addr} {cq i n b D : Nat} {a : ByteArray} {e : Nat} {wo : World} (h4 : e ≤ 9000) (hN : ∀ a', Frm 464 [(0, .string x), (2, .pointer (some ⟨w.heap.size, 0, none⟩)), (3, .pointer (some ⟨w.heap.size + 1, 0, none⟩)), (4, .pointer (some ⟨w.heap.size + 2, 0, none⟩)), (5, .slice Aq frs.length cq), (6, .int .i64 (e + 1 : Nat)), (7, .int .i64 (n : Nat)), (8, .int .u8 (b : Nat)), (9, .pointer (some ⟨D, 0, none⟩)), (16, .string a), (17, .int .i64 (e : Nat))] a' → Q .normal a' wo) : ∀ ac, Frm 464 [(0, .string x), (2, .pointer (some ⟨w.heap.size, 0, none⟩)), (3, .pointer (some ⟨w.heap.size + 1, 0, none⟩)), (4, .pointer (some ⟨w.heap.size + 2, 0, none⟩)), (5, .slice Aq frs.length cq), (6, .int .i64 (i : Nat)), (7, .int .i64 (n : Nat)), (8, .int .u8 (b : Nat)), (9, .pointer (some ⟨D, 0, none⟩)), (16, .string a), (17, .int .i64 (e : Nat))] ac → Code.wp Tryd.prog c_fr_f45 Q ac wo := by
  refine frm_open ?_
  refine frame_fr ?_
  intros
  rename_i hq
  obtain ⟨-, -, e0q, e1q, e2q, e3q, e4q, e5q, e6q, e7q, e8q, e9q, e10q, -⟩ := hq
  have e0q := (Option.some.inj e0q).symm; subst e0q
  have e1q := (Option.some.inj e1q).symm; subst e1q
  have e2q := (Option.some.inj e2q).symm; subst e2q
  have e3q := (Option.some.inj e3q).symm; subst e3q
  have e4q := (Option.some.inj e4q).symm; subst e4q
  have e5q := (Option.some.inj e5q).symm; subst e5q
  have e6q := (Option.some.inj e6q).symm; subst e6q
  have e7q := (Option.some.inj e7q).symm; subst e7q
  have e8q := (Option.some.inj e8q).symm; subst e8q
  have e9q := (Option.some.inj e9q).symm; subst e9q
  have e10q := (Option.some.inj e10q).symm; subst e10q
  conv => arg 2; whnf
  have HN := Lib.hid hN
  clear hN
  have hw : (e : Int) + 1 = ((e + 1 : Nat) : Int) := by omega
  have HW := Lib.hid hw
  clear hw
  go_wp2_with fail
  rw [HW.out]
  exact HN.out _ (id ⟨rfl, rfl, rfl, rfl, rfl, rfl, rfl, rfl, rfl, rfl, rfl, rfl, rfl, trivial⟩)
noncomputable def c_fr_f46 : Code := sub [1, 1, 1, 1, 1, 0, 0, 0, 1, 1, 1, 1, 1, 1, 1, 0, 1, 1, 1, 1, 1, 1, 1, 0, 1, 1, 0] (Tryd.f12.body.getD .skip)
set_option maxRecDepth 1000000 in
set_option maxHeartbeats 16000000 in
theorem fr_f46_wp {Q : Exit → Act → World → Prop} {x : ByteArray} {w : World} {frs : List F5} {Aq : Option Addr} {cq i n b D : Nat} {wo : World}  (hN : ∀ a', Frm 464 [(0, .string x), (2, .pointer (some ⟨w.heap.size, 0, none⟩)), (3, .pointer (some ⟨w.heap.size + 1, 0, none⟩)), (4, .pointer (some ⟨w.heap.size + 2, 0, none⟩)), (5, .slice Aq frs.length cq), (6, .int .i64 (i : Nat)), (7, .int .i64 (n : Nat)), (8, .int .u8 (b : Nat)), (9, .pointer (some ⟨D, 0, none⟩)), (222, .bool (decide (byteAt x (i) = 41)))] a' → Q .normal a' wo) : ∀ ac, Frm 464 [(0, .string x), (2, .pointer (some ⟨w.heap.size, 0, none⟩)), (3, .pointer (some ⟨w.heap.size + 1, 0, none⟩)), (4, .pointer (some ⟨w.heap.size + 2, 0, none⟩)), (5, .slice Aq frs.length cq), (6, .int .i64 (i : Nat)), (7, .int .i64 (n : Nat)), (8, .int .u8 (b : Nat)), (9, .pointer (some ⟨D, 0, none⟩))] ac → Code.wp Tryd.prog c_fr_f46 Q ac wo := by
  refine frm_open ?_
  refine frame_fr ?_
  intros
  rename_i hq
  obtain ⟨-, -, e0q, e1q, e2q, e3q, e4q, e5q, e6q, e7q, e8q, -⟩ := hq
  have e0q := (Option.some.inj e0q).symm; subst e0q
  have e1q := (Option.some.inj e1q).symm; subst e1q
  have e2q := (Option.some.inj e2q).symm; subst e2q
  have e3q := (Option.some.inj e3q).symm; subst e3q
  have e4q := (Option.some.inj e4q).symm; subst e4q
  have e5q := (Option.some.inj e5q).symm; subst e5q
  have e6q := (Option.some.inj e6q).symm; subst e6q
  have e7q := (Option.some.inj e7q).symm; subst e7q
  have e8q := (Option.some.inj e8q).symm; subst e8q
  conv => arg 2; whnf
  have HN := Lib.hid hN
  clear hN
  by_cases he : i < x.size
  case neg =>
    have q1 : ¬ (i : Int) < (x.size : Int) := by omega
    rw [show decide (byteAt x (i) = 41) = false from decide_eq_false (fun h => by rw [byteAt_out (by omega)] at h; cases h)] at HN
    go_wp2_with fail
    exact HN.out _ (id ⟨rfl, rfl, rfl, rfl, rfl, rfl, rfl, rfl, rfl, rfl, rfl, rfl, trivial⟩)
  have q1 : (i : Int) < (x.size : Int) := by omega
  have q0 : (0 : Int) ≤ (i : Int) := by omega
  have hb2 := byteAt_in he
  by_cases hc : (x[i]'he).toNat = 41
  · have q2 : ((((x[i]'he).toNat : Nat) : Int) == 41) = true := by rw [hc]; rfl
    rw [show decide (byteAt x (i) = 41) = true from decide_eq_true (by rw [hb2]; exact hc)] at HN
    clear hb2 hc
    go_wp2_with fail
    exact HN.out _ (id ⟨rfl, rfl, rfl, rfl, rfl, rfl, rfl, rfl, rfl, rfl, rfl, rfl, trivial⟩)
  · have q2 : ((((x[i]'he).toNat : Nat) : Int) == 41) = false := beq_eq_false_iff_ne.2 (by omega)
    rw [show decide (byteAt x (i) = 41) = false from decide_eq_false (fun h => hc (by rw [← hb2]; exact h))] at HN
    clear hb2 hc
    go_wp2_with fail
    exact HN.out _ (id ⟨rfl, rfl, rfl, rfl, rfl, rfl, rfl, rfl, rfl, rfl, rfl, rfl, trivial⟩)
noncomputable def c_fr_f47 : Code := sub [1, 1, 1, 1, 1, 0, 0, 0, 1, 1, 1, 1, 1, 1, 1, 0, 1, 1, 1, 1, 1, 1, 1, 0, 1, 1, 1, 0] (Tryd.f12.body.getD .skip)
set_option maxRecDepth 1000000 in
set_option maxHeartbeats 16000000 in
theorem fr_f47_wp {Q : Exit → Act → World → Prop} {x : ByteArray} {w : World} {frs : List F5} {Aq : Option Addr} {cq i n b D : Nat} {wo : World} (h4 : i ≤ 9000) (hN : ∀ a', Frm 464 [(0, .string x), (2, .pointer (some ⟨w.heap.size, 0, none⟩)), (3, .pointer (some ⟨w.heap.size + 1, 0, none⟩)), (4, .pointer (some ⟨w.heap.size + 2, 0, none⟩)), (5, .slice Aq frs.length cq), (6, .int .i64 (i + 1 : Nat)), (7, .int .i64 (n : Nat)), (8, .int .u8 (b : Nat)), (9, .pointer (some ⟨D, 0, none⟩))] a' → Q .normal a' wo) : ∀ ac, Frm 464 [(0, .string x), (2, .pointer (some ⟨w.heap.size, 0, none⟩)), (3, .pointer (some ⟨w.heap.size + 1, 0, none⟩)), (4, .pointer (some ⟨w.heap.size + 2, 0, none⟩)), (5, .slice Aq frs.length cq), (6, .int .i64 (i : Nat)), (7, .int .i64 (n : Nat)), (8, .int .u8 (b : Nat)), (9, .pointer (some ⟨D, 0, none⟩))] ac → Code.wp Tryd.prog c_fr_f47 Q ac wo := by
  refine frm_open ?_
  refine frame_fr ?_
  intros
  rename_i hq
  obtain ⟨-, -, e0q, e1q, e2q, e3q, e4q, e5q, e6q, e7q, e8q, -⟩ := hq
  have e0q := (Option.some.inj e0q).symm; subst e0q
  have e1q := (Option.some.inj e1q).symm; subst e1q
  have e2q := (Option.some.inj e2q).symm; subst e2q
  have e3q := (Option.some.inj e3q).symm; subst e3q
  have e4q := (Option.some.inj e4q).symm; subst e4q
  have e5q := (Option.some.inj e5q).symm; subst e5q
  have e6q := (Option.some.inj e6q).symm; subst e6q
  have e7q := (Option.some.inj e7q).symm; subst e7q
  have e8q := (Option.some.inj e8q).symm; subst e8q
  conv => arg 2; whnf
  have HN := Lib.hid hN
  clear hN
  have hw : (i : Int) + 1 = ((i + 1 : Nat) : Int) := by omega
  have HW := Lib.hid hw
  clear hw
  go_wp2_with fail
  rw [HW.out]
  exact HN.out _ (id ⟨rfl, rfl, rfl, rfl, rfl, rfl, rfl, rfl, rfl, rfl, rfl, trivial⟩)
noncomputable def c_fr_f48 : Code := sub [1, 1, 1, 1, 1, 0, 0, 0, 1, 1, 1, 1, 1, 1, 1, 0, 1, 1, 1, 1, 1, 1, 1, 0, 1, 1, 1, 1, 0, 0, 0, 0] (Tryd.f12.body.getD .skip)
set_option maxRecDepth 1000000 in
set_option maxHeartbeats 16000000 in
theorem fr_f48_wp {Q : Exit → Act → World → Prop} {x : ByteArray} {w : World} {frs : List F5} {Aq : Option Addr} {cq i n b D : Nat} {wo : World} (hx4 : x.size ≤ 4000) (hi : i ≤ x.size) (hN : ∀ a', Frm 464 [(0, .string x), (2, .pointer (some ⟨w.heap.size, 0, none⟩)), (3, .pointer (some ⟨w.heap.size + 1, 0, none⟩)), (4, .pointer (some ⟨w.heap.size + 2, 0, none⟩)), (5, .slice Aq frs.length cq), (6, .int .i64 (i : Nat)), (7, .int .i64 (n : Nat)), (8, .int .u8 (b : Nat)), (9, .pointer (some ⟨D, 0, none⟩)), (19, .string (x.extract i (nameE x i)))] a' → Q .normal a' wo) : ∀ ac, Frm 464 [(0, .string x), (2, .pointer (some ⟨w.heap.size, 0, none⟩)), (3, .pointer (some ⟨w.heap.size + 1, 0, none⟩)), (4, .pointer (some ⟨w.heap.size + 2, 0, none⟩)), (5, .slice Aq frs.length cq), (6, .int .i64 (i : Nat)), (7, .int .i64 (n : Nat)), (8, .int .u8 (b : Nat)), (9, .pointer (some ⟨D, 0, none⟩))] ac → Code.wp Tryd.prog c_fr_f48 Q ac wo := by
  refine frm_open ?_
  refine frame_fr ?_
  intros
  rename_i hq
  obtain ⟨-, -, e0q, e1q, e2q, e3q, e4q, e5q, e6q, e7q, e8q, -⟩ := hq
  have e0q := (Option.some.inj e0q).symm; subst e0q
  have e1q := (Option.some.inj e1q).symm; subst e1q
  have e2q := (Option.some.inj e2q).symm; subst e2q
  have e3q := (Option.some.inj e3q).symm; subst e3q
  have e4q := (Option.some.inj e4q).symm; subst e4q
  have e5q := (Option.some.inj e5q).symm; subst e5q
  have e6q := (Option.some.inj e6q).symm; subst e6q
  have e7q := (Option.some.inj e7q).symm; subst e7q
  have e8q := (Option.some.inj e8q).symm; subst e8q
  conv => arg 2; whnf
  have HN := Lib.hid hN
  clear hN
  have hwd := word_any x i wo hx4 hi
  have HWD := Lib.hid hwd
  clear hwd
  go_wp2_with fail
  (with_reducible refine HWD.out.mono ?_)
  rintro e w' ⟨rfl, rfl⟩
  go_wp2_with fail
  exact HN.out _ (id ⟨rfl, rfl, rfl, rfl, rfl, rfl, rfl, rfl, rfl, rfl, rfl, rfl, trivial⟩)
noncomputable def c_fr_f49 : Code := sub [1, 1, 1, 1, 1, 0, 0, 0, 1, 1, 1, 1, 1, 1, 1, 0, 1, 1, 1, 1, 1, 1, 1, 0, 1, 1, 1, 1, 0, 0, 0, 1, 0] (Tryd.f12.body.getD .skip)
set_option maxRecDepth 1000000 in
set_option maxHeartbeats 16000000 in
theorem fr_f49_wp {Q : Exit → Act → World → Prop} {x : ByteArray} {w : World} {frs : List F5} {Aq : Option Addr} {cq i n b D e : Nat} {a2 : ByteArray} {wo : World} (he : i + a2.size = e) (h4 : e ≤ 9000) (hN : ∀ a', Frm 464 [(0, .string x), (2, .pointer (some ⟨w.heap.size, 0, none⟩)), (3, .pointer (some ⟨w.heap.size + 1, 0, none⟩)), (4, .pointer (some ⟨w.heap.size + 2, 0, none⟩)), (5, .slice Aq frs.length cq), (6, .int .i64 (e : Nat)), (7, .int .i64 (n : Nat)), (8, .int .u8 (b : Nat)), (9, .pointer (some ⟨D, 0, none⟩)), (19, .string a2)] a' → Q .normal a' wo) : ∀ ac, Frm 464 [(0, .string x), (2, .pointer (some ⟨w.heap.size, 0, none⟩)), (3, .pointer (some ⟨w.heap.size + 1, 0, none⟩)), (4, .pointer (some ⟨w.heap.size + 2, 0, none⟩)), (5, .slice Aq frs.length cq), (6, .int .i64 (i : Nat)), (7, .int .i64 (n : Nat)), (8, .int .u8 (b : Nat)), (9, .pointer (some ⟨D, 0, none⟩)), (19, .string a2)] ac → Code.wp Tryd.prog c_fr_f49 Q ac wo := by
  refine frm_open ?_
  refine frame_fr ?_
  intros
  rename_i hq
  obtain ⟨-, -, e0q, e1q, e2q, e3q, e4q, e5q, e6q, e7q, e8q, e9q, -⟩ := hq
  have e0q := (Option.some.inj e0q).symm; subst e0q
  have e1q := (Option.some.inj e1q).symm; subst e1q
  have e2q := (Option.some.inj e2q).symm; subst e2q
  have e3q := (Option.some.inj e3q).symm; subst e3q
  have e4q := (Option.some.inj e4q).symm; subst e4q
  have e5q := (Option.some.inj e5q).symm; subst e5q
  have e6q := (Option.some.inj e6q).symm; subst e6q
  have e7q := (Option.some.inj e7q).symm; subst e7q
  have e8q := (Option.some.inj e8q).symm; subst e8q
  have e9q := (Option.some.inj e9q).symm; subst e9q
  conv => arg 2; whnf
  have HN := Lib.hid hN
  clear hN
  have hw : (i : Int) + (a2.size : Int) = ((e : Nat) : Int) := by omega
  have HW := Lib.hid hw
  clear hw
  go_wp2_with fail
  rw [HW.out]
  exact HN.out _ (id ⟨rfl, rfl, rfl, rfl, rfl, rfl, rfl, rfl, rfl, rfl, rfl, rfl, trivial⟩)
noncomputable def c_fr_f257 : Code := sub [1, 1, 1, 1, 1, 0, 0, 0, 1, 1, 1, 1, 1, 1, 1, 0, 1, 1, 1, 1, 1, 1, 1, 0, 1, 1, 1, 1, 0, 0, 0, 1, 1, 0] (Tryd.f12.body.getD .skip)
set_option maxRecDepth 1000000 in
set_option maxHeartbeats 16000000 in
theorem fr_f257_wp {Q : Exit → Act → World → Prop} {x : ByteArray} {w : World} {frs : List F5} {Aq : Option Addr} {cq i n b D : Nat} {a2 : ByteArray} {a : ByteArray} {l : List ByteArray} {v : Value} {wo wx : World} (hl4 : l.length ≤ 4) (hp : PredF w wo wx frs Aq cq D a l v) (hR : ¬ (a2 ≠ ⟨#[]⟩ ∧ (byteAt x i = 41 ∨ (byteAt x i = 44 ∧ l.length ≠ 2))) → ∀ a' w', Frm 464 [(2, .pointer (some ⟨w.heap.size, 0, none⟩)), (3, .pointer (some ⟨w.heap.size + 1, 0, none⟩))] a' → w'.heap[w.heap.size]? = some (.cells #[.int .i64 0, .string ⟨#[]⟩, .slice none 0 0, .slice none 0 0] 34 (0, 0)) → w'.heap[w.heap.size + 1]? = some (.cells #[.int .i64 11, .int .i64 (i : Nat)] 27 (0, 0)) → Below w.heap.size w w' → Q .ret a' w') (hN : (a2 ≠ ⟨#[]⟩ ∧ (byteAt x i = 41 ∨ (byteAt x i = 44 ∧ l.length ≠ 2))) → ∀ a', Frm 464 [(0, .string x), (2, .pointer (some ⟨w.heap.size, 0, none⟩)), (3, .pointer (some ⟨w.heap.size + 1, 0, none⟩)), (4, .pointer (some ⟨w.heap.size + 2, 0, none⟩)), (5, .slice Aq frs.length cq), (6, .int .i64 (i : Nat)), (7, .int .i64 (n : Nat)), (8, .int .u8 (b : Nat)), (9, .pointer (some ⟨D, 0, none⟩)), (19, .string a2)] a' → Q .normal a' wx) : ∀ ac, Frm 464 [(0, .string x), (2, .pointer (some ⟨w.heap.size, 0, none⟩)), (3, .pointer (some ⟨w.heap.size + 1, 0, none⟩)), (4, .pointer (some ⟨w.heap.size + 2, 0, none⟩)), (5, .slice Aq frs.length cq), (6, .int .i64 (i : Nat)), (7, .int .i64 (n : Nat)), (8, .int .u8 (b : Nat)), (9, .pointer (some ⟨D, 0, none⟩)), (19, .string a2)] ac → Code.wp Tryd.prog c_fr_f257 Q ac wx := by
  refine frm_open ?_
  refine frame_fr ?_
  intros
  rename_i hq
  obtain ⟨-, -, e0q, e1q, e2q, e3q, e4q, e5q, e6q, e7q, e8q, e9q, -⟩ := hq
  have e0q := (Option.some.inj e0q).symm; subst e0q
  have e1q := (Option.some.inj e1q).symm; subst e1q
  have e2q := (Option.some.inj e2q).symm; subst e2q
  have e3q := (Option.some.inj e3q).symm; subst e3q
  have e4q := (Option.some.inj e4q).symm; subst e4q
  have e5q := (Option.some.inj e5q).symm; subst e5q
  have e6q := (Option.some.inj e6q).symm; subst e6q
  have e7q := (Option.some.inj e7q).symm; subst e7q
  have e8q := (Option.some.inj e8q).symm; subst e8q
  have e9q := (Option.some.inj e9q).symm; subst e9q
  conv => arg 2; whnf
  obtain ⟨Av, cv, rfl⟩ := hp.o.len
  have hll : l.length ≤ 4 := hl4
  have HR := Lib.hid hR
  have HN := Lib.hid hN
  clear hR hN
  have hbz := GsOk.base hp.m.fs
  have hDl := lt_heap hp.d
  obtain ⟨pz, pf, pn⟩ := hp.m.z
  have hB := hp.m.B
  have pd := hp.d
  clear hp
  have HB := Lib.hid hB
  clear hB
  have pz_0 := cv0 pz
  have pz_1 := cv1 pz
  have pz_2 := cv2 pz
  have pz_3 := cv3 pz
  have pz_f0 := free_heap pz 0
  have pz_f1 := free_heap pz 1
  have pz_f2 := free_heap pz 2
  have pz_f3 := free_heap pz 3
  have pz_l := lt_heap pz
  have PZ := Lib.hid pz
  clear pz
  have pf_0 := cv0 pf
  have pf_1 := cv1 pf
  have pf_f0 := free_heap pf 0
  have pf_f1 := free_heap pf 1
  have pf_l := lt_heap pf
  have PF := Lib.hid pf
  clear pf
  have pn_0 := cv0 pn
  have pn_1 := cv1 pn
  have pn_2 := cv2 pn
  have pn_3 := cv3 pn
  have pn_l := lt_heap pn
  have PN := Lib.hid pn
  clear pn
  have pd_0 := cv0 pd
  have pd_1 := cv1 pd
  have pd_2 := cv2 pd
  have pd_3 := cv3 pd
  have pd_l := lt_heap pd
  have PD := Lib.hid pd
  clear pd
  by_cases ha : a2 = ⟨#[]⟩
  · subst ha
    replace HR := Lib.hid (HR.out (fun h => h.1 rfl))
    go_wp2_with fail
    exact HR.out _ _ (id ⟨rfl, rfl, rfl, rfl, trivial⟩) (far2 (by omega) (at4 PZ.out)) (at2 (far4 (by omega) PF.out)) (below2 (below4 HB.out (Nat.le_refl _)) (by omega))
  have s1 : a2.toList.isEmpty = false := nonempty_of2 ha
  have s2 : (a2.toList == []) = false := beq_eq_false_iff_ne.2 (fun h => by rw [h] at s1; cases s1)
  have s3 : (a2.toList != []) = true := bne_iff_ne.2 (fun h => by rw [h] at s1; cases s1)
  by_cases hi : i < x.size
  case neg =>
    have q1 : (x.size : Int) ≤ (i : Int) := by omega
    replace HR := Lib.hid (HR.out (fun h => by have h2 := h.2; rw [byteAt_out (by omega)] at h2; omega))
    clear ha
    go_wp2_with fail
    exact HR.out _ _ (id ⟨rfl, rfl, rfl, rfl, trivial⟩) (far2 (by omega) (at4 PZ.out)) (at2 (far4 (by omega) PF.out)) (below2 (below4 HB.out (Nat.le_refl _)) (by omega))
  have q1 : ¬ (x.size : Int) ≤ (i : Int) := by omega
  have q3 : (i : Int) < (x.size : Int) := by omega
  have q0 : (0 : Int) ≤ (i : Int) := by omega
  have hb2 := byteAt_in hi
  by_cases h41 : (x[i]'hi).toNat = 41
  · have t1 : ((((x[i]'hi).toNat : Nat) : Int) != 41) = false := by rw [h41]; rfl
    replace HN := Lib.hid (HN.out ⟨ha, Or.inl (by rw [hb2]; exact h41)⟩)
    clear ha hb2 h41
    go_wp2_with fail
    exact HN.out _ (id ⟨rfl, rfl, rfl, rfl, rfl, rfl, rfl, rfl, rfl, rfl, rfl, rfl, trivial⟩)
  have t1 : ((((x[i]'hi).toNat : Nat) : Int) != 41) = true := bne_iff_ne.2 (by omega)
  by_cases h44 : (x[i]'hi).toNat = 44
  case neg =>
    have t2 : ((((x[i]'hi).toNat : Nat) : Int) != 44) = true := bne_iff_ne.2 (by omega)
    replace HR := Lib.hid (HR.out (fun h => by have h2 := h.2; rw [hb2] at h2; omega))
    clear ha hb2 h41 h44
    go_wp2_with fail
    exact HR.out _ _ (id ⟨rfl, rfl, rfl, rfl, trivial⟩) (far2 (by omega) (at4 PZ.out)) (at2 (far4 (by omega) PF.out)) (below2 (below4 HB.out (Nat.le_refl _)) (by omega))
  have t2 : ((((x[i]'hi).toNat : Nat) : Int) != 44) = false := by rw [h44]; rfl
  by_cases hl2 : l.length = 2
  · have t3 : ((l.length : Int) == 2) = true := by rw [hl2]; rfl
    replace HR := Lib.hid (HR.out (fun h => by have h2 := h.2; rw [hb2] at h2; omega))
    clear ha hb2 h41 h44 hl2
    go_wp2_with fail
    exact HR.out _ _ (id ⟨rfl, rfl, rfl, rfl, trivial⟩) (far2 (by omega) (at4 PZ.out)) (at2 (far4 (by omega) PF.out)) (below2 (below4 HB.out (Nat.le_refl _)) (by omega))
  · have t3 : ((l.length : Int) == 2) = false := beq_eq_false_iff_ne.2 (by omega)
    replace HN := Lib.hid (HN.out ⟨ha, Or.inr ⟨by rw [hb2]; exact h44, hl2⟩⟩)
    clear ha hb2 h41 h44 hl2
    go_wp2_with fail
    exact HN.out _ (id ⟨rfl, rfl, rfl, rfl, rfl, rfl, rfl, rfl, rfl, rfl, rfl, rfl, trivial⟩)
noncomputable def c_fr_f55 : Code := sub [1, 1, 1, 1, 1, 0, 0, 0, 1, 1, 1, 1, 1, 1, 1, 0, 1, 1, 1, 1, 1, 1, 1, 1, 0] (Tryd.f12.body.getD .skip)
set_option maxRecDepth 1000000 in
set_option maxHeartbeats 16000000 in
theorem fr_f55_wp {Q : Exit → Act → World → Prop} {x : ByteArray} {w : World} {frs : List F5} {Aq : Option Addr} {cq i n b D : Nat} {a : ByteArray} {e c2 : Nat} {wo : World} (hN : ∀ a', Frm 464 [(0, .string x), (2, .pointer (some ⟨w.heap.size, 0, none⟩)), (3, .pointer (some ⟨w.heap.size + 1, 0, none⟩)), (4, .pointer (some ⟨w.heap.size + 2, 0, none⟩)), (5, .slice Aq frs.length cq), (6, .int .i64 (i : Nat)), (7, .int .i64 (n : Nat)), (8, .int .u8 (b : Nat)), (9, .pointer (some ⟨D, 0, none⟩)), (16, .string a), (17, .int .i64 (e : Nat)), (18, .int .u8 (c2 : Nat)), (275, .bool (decide (a = wTrue)))] a' → Q .normal a' wo) : ∀ ac, Frm 464 [(0, .string x), (2, .pointer (some ⟨w.heap.size, 0, none⟩)), (3, .pointer (some ⟨w.heap.size + 1, 0, none⟩)), (4, .pointer (some ⟨w.heap.size + 2, 0, none⟩)), (5, .slice Aq frs.length cq), (6, .int .i64 (i : Nat)), (7, .int .i64 (n : Nat)), (8, .int .u8 (b : Nat)), (9, .pointer (some ⟨D, 0, none⟩)), (16, .string a), (17, .int .i64 (e : Nat)), (18, .int .u8 (c2 : Nat))] ac → Code.wp Tryd.prog c_fr_f55 Q ac wo := by
  refine frm_open ?_
  refine frame_fr ?_
  intros
  rename_i hq
  obtain ⟨-, -, e0q, e1q, e2q, e3q, e4q, e5q, e6q, e7q, e8q, e9q, e10q, e11q, -⟩ := hq
  have e0q := (Option.some.inj e0q).symm; subst e0q
  have e1q := (Option.some.inj e1q).symm; subst e1q
  have e2q := (Option.some.inj e2q).symm; subst e2q
  have e3q := (Option.some.inj e3q).symm; subst e3q
  have e4q := (Option.some.inj e4q).symm; subst e4q
  have e5q := (Option.some.inj e5q).symm; subst e5q
  have e6q := (Option.some.inj e6q).symm; subst e6q
  have e7q := (Option.some.inj e7q).symm; subst e7q
  have e8q := (Option.some.inj e8q).symm; subst e8q
  have e9q := (Option.some.inj e9q).symm; subst e9q
  have e10q := (Option.some.inj e10q).symm; subst e10q
  have e11q := (Option.some.inj e11q).symm; subst e11q
  conv => arg 2; whnf
  have HN := Lib.hid hN
  clear hN
  by_cases h1 : a = wTrue
  · subst h1
    rw [show decide (wTrue = wTrue) = true from decide_eq_true rfl] at HN
    unfold wTrue at HN ⊢
    have t1 : ((⟨#[116, 114, 117, 101]⟩ : ByteArray).toList == [116, 114, 117, 101]) = true := by decide +kernel
    go_wp2_with fail
    exact HN.out _ (id ⟨rfl, rfl, rfl, rfl, rfl, rfl, rfl, rfl, rfl, rfl, rfl, rfl, rfl, rfl, rfl, trivial⟩)
  have t1 : (a.toList == [116, 114, 117, 101]) = false := ne_list h1 (by decide +kernel)
  rw [show decide (a = wTrue) = false from decide_eq_false h1] at HN
  clear h1
  go_wp2_with fail
  exact HN.out _ (id ⟨rfl, rfl, rfl, rfl, rfl, rfl, rfl, rfl, rfl, rfl, rfl, rfl, rfl, rfl, rfl, trivial⟩)
noncomputable def c_fr_f56 : Code := sub [1, 1, 1, 1, 1, 0, 0, 0, 1, 1, 1, 1, 1, 1, 1, 0, 1, 1, 1, 1, 1, 1, 1, 1, 1, 0, 0] (Tryd.f12.body.getD .skip)
set_option maxRecDepth 1000000 in
set_option maxHeartbeats 16000000 in
theorem fr_f56_wp {Q : Exit → Act → World → Prop} {x : ByteArray} {w : World} {frs : List F5} {Aq : Option Addr} {cq i n b D : Nat} {a : ByteArray} {e c2 : Nat} {wo : World} (hm : GMem w wo frs Aq cq (D)) (hD : D < wo.heap.size) (hblk : ∀ b, (Value.slice Aq frs.length cq).ownBlock = some b → w.heap.size + 3 ≤ b ∧ b < D) (hd : wo.heap[D]? = some (.cells #[.int .i64 0, .string ⟨#[]⟩, .slice none 0 0, .slice none 0 0] 34 (0, 0))) (hN : ∀ dc a' wx, Frm 464 [(0, .string x), (2, .pointer (some ⟨w.heap.size, 0, none⟩)), (3, .pointer (some ⟨w.heap.size + 1, 0, none⟩)), (4, .pointer (some ⟨w.heap.size + 2, 0, none⟩)), (5, .slice Aq frs.length cq), (6, .int .i64 (i : Nat)), (7, .int .i64 (n : Nat)), (8, .int .u8 (b : Nat)), (9, .pointer (some ⟨D, 0, none⟩)), (16, .string a), (17, .int .i64 (e : Nat))] a' → LeafF w wo wx frs Aq cq D .tru dc → Q .normal a' wx) : ∀ ac, Frm 464 [(0, .string x), (2, .pointer (some ⟨w.heap.size, 0, none⟩)), (3, .pointer (some ⟨w.heap.size + 1, 0, none⟩)), (4, .pointer (some ⟨w.heap.size + 2, 0, none⟩)), (5, .slice Aq frs.length cq), (6, .int .i64 (i : Nat)), (7, .int .i64 (n : Nat)), (8, .int .u8 (b : Nat)), (9, .pointer (some ⟨D, 0, none⟩)), (16, .string a), (17, .int .i64 (e : Nat)), (18, .int .u8 (c2 : Nat))] ac → Code.wp Tryd.prog c_fr_f56 Q ac wo := by
  refine frm_open ?_
  refine frame_fr ?_
  intros
  rename_i hq
  obtain ⟨-, -, e0q, e1q, e2q, e3q, e4q, e5q, e6q, e7q, e8q, e9q, e10q, e11q, -⟩ := hq
  have e0q := (Option.some.inj e0q).symm; subst e0q
  have e1q := (Option.some.inj e1q).symm; subst e1q
  have e2q := (Option.some.inj e2q).symm; subst e2q
  have e3q := (Option.some.inj e3q).symm; subst e3q
  have e4q := (Option.some.inj e4q).symm; subst e4q
  have e5q := (Option.some.inj e5q).symm; subst e5q
  have e6q := (Option.some.inj e6q).symm; subst e6q
  have e7q := (Option.some.inj e7q).symm; subst e7q
  have e8q := (Option.some.inj e8q).symm; subst e8q
  have e9q := (Option.some.inj e9q).symm; subst e9q
  have e10q := (Option.some.inj e10q).symm; subst e10q
  have e11q := (Option.some.inj e11q).symm; subst e11q
  conv => arg 2; whnf
  have HN := Lib.hid hN
  clear hN
  have hbz := GsOk.base hm.fs
  obtain ⟨hown, hfrs, ⟨pz, pf, pn⟩, hB⟩ := hm
  have HOWN := Lib.hid hown
  have HFRS := Lib.hid hfrs
  have HB := Lib.hid hB
  have HBLK := Lib.hid hblk
  clear hown hfrs hB hblk
  have pz_0 := cv0 pz
  have pz_1 := cv1 pz
  have pz_2 := cv2 pz
  have pz_3 := cv3 pz
  have pz_f0 := free_heap pz 0
  have pz_f1 := free_heap pz 1
  have pz_f2 := free_heap pz 2
  have pz_f3 := free_heap pz 3
  have pz_l := lt_heap pz
  have PZ := Lib.hid pz
  clear pz
  have pf_0 := cv0 pf
  have pf_1 := cv1 pf
  have pf_f0 := free_heap pf 0
  have pf_f1 := free_heap pf 1
  have pf_l := lt_heap pf
  have PF := Lib.hid pf
  clear pf
  have pn_0 := cv0 pn
  have pn_1 := cv1 pn
  have pn_2 := cv2 pn
  have pn_3 := cv3 pn
  have pn_l := lt_heap pn
  have PN := Lib.hid pn
  clear pn
  have pd := hd
  clear hd
  have pd_0 := cv0 pd
  have pd_1 := cv1 pd
  have pd_2 := cv2 pd
  have pd_3 := cv3 pd
  have pd_f0 := free_heap pd 0
  have pd_f1 := free_heap pd 1
  have pd_f2 := free_heap pd 2
  have pd_f3 := free_heap pd 3
  have pd_l := lt_heap pd
  have PD := Lib.hid pd
  clear pd
  go_wp2_with fail
  have hnD : (Value.slice Aq frs.length cq).ownBlock ≠ some D := fun e => by have := (HBLK.out D e).2; omega
  refine gen_last (fun wx => LeafF w wo wx frs Aq cq D .tru [.int .i64 1, .string ⟨#[]⟩, .slice none 0 0, .slice none 0 0]) ?_ (fun wx h9 => by exact HN.out _ _ wx (id ⟨rfl, rfl, rfl, rfl, rfl, rfl, rfl, rfl, rfl, rfl, rfl, rfl, rfl, trivial⟩) h9)
  exact ⟨⟨oth4 (i := 0) hnD HOWN.out, HFRS.out.keep (fun b h1 h2 h3 => far4 (by omega) rfl) (fun _ _ e => e) (Nat.le_refl _), ⟨far4 (by omega) PZ.out, far4 (by omega) PF.out, far4 (by omega) PN.out⟩, below4 HB.out (by omega)⟩, at4 PD.out, Fm.shut (a := ⟨1, ⟨#[]⟩, []⟩) (l := []) (by decide +kernel) Rep.Sl.nil Rep.Sl.nil, le4 (Nat.le_refl _)⟩
noncomputable def c_fr_f57 : Code := sub [1, 1, 1, 1, 1, 0, 0, 0, 1, 1, 1, 1, 1, 1, 1, 0, 1, 1, 1, 1, 1, 1, 1, 1, 1, 0, 1] (Tryd.f12.body.getD .skip)
set_option maxRecDepth 1000000 in
set_option maxHeartbeats 16000000 in
theorem fr_f57_wp {Q : Exit → Act → World → Prop} {x : ByteArray} {w : World} {frs : List F5} {Aq : Option Addr} {cq i n b D : Nat} {a : ByteArray} {e : Nat} {wo : World} (hN : ∀ a', Frm 464 [(0, .string x), (2, .pointer (some ⟨w.heap.size, 0, none⟩)), (3, .pointer (some ⟨w.heap.size + 1, 0, none⟩)), (4, .pointer (some ⟨w.heap.size + 2, 0, none⟩)), (5, .slice Aq frs.length cq), (6, .int .i64 (e : Nat)), (7, .int .i64 (n : Nat)), (8, .int .u8 (b : Nat)), (9, .pointer (some ⟨D, 0, none⟩)), (16, .string a), (17, .int .i64 (e : Nat))] a' → Q .normal a' wo) : ∀ ac, Frm 464 [(0, .string x), (2, .pointer (some ⟨w.heap.size, 0, none⟩)), (3, .pointer (some ⟨w.heap.size + 1, 0, none⟩)), (4, .pointer (some ⟨w.heap.size + 2, 0, none⟩)), (5, .slice Aq frs.length cq), (6, .int .i64 (i : Nat)), (7, .int .i64 (n : Nat)), (8, .int .u8 (b : Nat)), (9, .pointer (some ⟨D, 0, none⟩)), (16, .string a), (17, .int .i64 (e : Nat))] ac → Code.wp Tryd.prog c_fr_f57 Q ac wo := by
  refine frm_open ?_
  refine frame_fr ?_
  intros
  rename_i hq
  obtain ⟨-, -, e0q, e1q, e2q, e3q, e4q, e5q, e6q, e7q, e8q, e9q, e10q, -⟩ := hq
  have e0q := (Option.some.inj e0q).symm; subst e0q
  have e1q := (Option.some.inj e1q).symm; subst e1q
  have e2q := (Option.some.inj e2q).symm; subst e2q
  have e3q := (Option.some.inj e3q).symm; subst e3q
  have e4q := (Option.some.inj e4q).symm; subst e4q
  have e5q := (Option.some.inj e5q).symm; subst e5q
  have e6q := (Option.some.inj e6q).symm; subst e6q
  have e7q := (Option.some.inj e7q).symm; subst e7q
  have e8q := (Option.some.inj e8q).symm; subst e8q
  have e9q := (Option.some.inj e9q).symm; subst e9q
  have e10q := (Option.some.inj e10q).symm; subst e10q
  conv => arg 2; whnf
  have HN := Lib.hid hN
  clear hN
  go_wp2_with fail
  exact HN.out _ (id ⟨rfl, rfl, rfl, rfl, rfl, rfl, rfl, rfl, rfl, rfl, rfl, rfl, rfl, trivial⟩)
noncomputable def c_fr_f58 : Code := sub [1, 1, 1, 1, 1, 0, 0, 0, 1, 1, 1, 1, 1, 1, 1, 0, 1, 1, 1, 1, 1, 1, 1, 1, 1, 1, 0] (Tryd.f12.body.getD .skip)
set_option maxRecDepth 1000000 in
set_option maxHeartbeats 16000000 in
theorem fr_f58_wp {Q : Exit → Act → World → Prop} {x : ByteArray} {w : World} {frs : List F5} {Aq : Option Addr} {cq i n b D : Nat} {a : ByteArray} {e c2 : Nat} {wo : World} (hN : ∀ a', Frm 464 [(0, .string x), (2, .pointer (some ⟨w.heap.size, 0, none⟩)), (3, .pointer (some ⟨w.heap.size + 1, 0, none⟩)), (4, .pointer (some ⟨w.heap.size + 2, 0, none⟩)), (5, .slice Aq frs.length cq), (6, .int .i64 (i : Nat)), (7, .int .i64 (n : Nat)), (8, .int .u8 (b : Nat)), (9, .pointer (some ⟨D, 0, none⟩)), (16, .string a), (17, .int .i64 (e : Nat)), (18, .int .u8 (c2 : Nat)), (283, .bool (decide (a = wAll ∨ a = wSome)))] a' → Q .normal a' wo) : ∀ ac, Frm 464 [(0, .string x), (2, .pointer (some ⟨w.heap.size, 0, none⟩)), (3, .pointer (some ⟨w.heap.size + 1, 0, none⟩)), (4, .pointer (some ⟨w.heap.size + 2, 0, none⟩)), (5, .slice Aq frs.length cq), (6, .int .i64 (i : Nat)), (7, .int .i64 (n : Nat)), (8, .int .u8 (b : Nat)), (9, .pointer (some ⟨D, 0, none⟩)), (16, .string a), (17, .int .i64 (e : Nat)), (18, .int .u8 (c2 : Nat))] ac → Code.wp Tryd.prog c_fr_f58 Q ac wo := by
  refine frm_open ?_
  refine frame_fr ?_
  intros
  rename_i hq
  obtain ⟨-, -, e0q, e1q, e2q, e3q, e4q, e5q, e6q, e7q, e8q, e9q, e10q, e11q, -⟩ := hq
  have e0q := (Option.some.inj e0q).symm; subst e0q
  have e1q := (Option.some.inj e1q).symm; subst e1q
  have e2q := (Option.some.inj e2q).symm; subst e2q
  have e3q := (Option.some.inj e3q).symm; subst e3q
  have e4q := (Option.some.inj e4q).symm; subst e4q
  have e5q := (Option.some.inj e5q).symm; subst e5q
  have e6q := (Option.some.inj e6q).symm; subst e6q
  have e7q := (Option.some.inj e7q).symm; subst e7q
  have e8q := (Option.some.inj e8q).symm; subst e8q
  have e9q := (Option.some.inj e9q).symm; subst e9q
  have e10q := (Option.some.inj e10q).symm; subst e10q
  have e11q := (Option.some.inj e11q).symm; subst e11q
  conv => arg 2; whnf
  have HN := Lib.hid hN
  clear hN
  by_cases h2 : a = wAll
  · subst h2
    rw [show decide (wAll = wAll ∨ wAll = wSome) = true from decide_eq_true (Or.inl rfl)] at HN
    unfold wAll at HN ⊢
    have t2 : ((⟨#[97, 108, 108]⟩ : ByteArray).toList == [97, 108, 108]) = true := by decide +kernel
    go_wp2_with fail
    exact HN.out _ (id ⟨rfl, rfl, rfl, rfl, rfl, rfl, rfl, rfl, rfl, rfl, rfl, rfl, rfl, rfl, rfl, trivial⟩)
  have t2 : (a.toList == [97, 108, 108]) = false := ne_list h2 (by decide +kernel)
  by_cases h3 : a = wSome
  · subst h3
    rw [show decide (wSome = wAll ∨ wSome = wSome) = true from decide_eq_true (Or.inr rfl)] at HN
    unfold wSome at HN ⊢ t2
    have t3 : ((⟨#[115, 111, 109, 101]⟩ : ByteArray).toList == [115, 111, 109, 101]) = true := by decide +kernel
    clear h2
    go_wp2_with fail
    exact HN.out _ (id ⟨rfl, rfl, rfl, rfl, rfl, rfl, rfl, rfl, rfl, rfl, rfl, rfl, rfl, rfl, rfl, trivial⟩)
  have t3 : (a.toList == [115, 111, 109, 101]) = false := ne_list h3 (by decide +kernel)
  rw [show decide (a = wAll ∨ a = wSome) = false from decide_eq_false (fun h => by rcases h with h | h; exact h2 h; exact h3 h)] at HN
  clear h2 h3
  go_wp2_with fail
  exact HN.out _ (id ⟨rfl, rfl, rfl, rfl, rfl, rfl, rfl, rfl, rfl, rfl, rfl, rfl, rfl, rfl, rfl, trivial⟩)
noncomputable def c_fr_f285 : Code := sub [1, 1, 1, 1, 1, 0, 0, 0, 1, 1, 1, 1, 1, 1, 1, 0, 1, 1, 1, 1, 1, 1, 1, 1, 1, 1, 1, 0, 0] (Tryd.f12.body.getD .skip)
set_option maxRecDepth 1000000 in
set_option maxHeartbeats 16000000 in
theorem fr_f285_wp {Q : Exit → Act → World → Prop} {x : ByteArray} {w : World} {frs : List F5} {Aq : Option Addr} {cq i n b D : Nat} {a : ByteArray} {e c2 : Nat} {wo : World} (hz : (wo.heap[w.heap.size]? = some (.cells #[.int .i64 0, .string ⟨#[]⟩, .slice none 0 0, .slice none 0 0] 34 (0, 0)) ∧ wo.heap[w.heap.size + 1]? = some (.cells #[.int .i64 0, .int .i64 0] 27 (0, 0)) ∧ wo.heap[w.heap.size + 2]? = some (.cells #[.int .i64 0, .string ⟨#[]⟩, .slice none 0 0, .slice none 0 0] 34 (0, 0)))) (hB : Below w.heap.size w wo) (hR : c2 ≠ 32 → ∀ a' w', Frm 464 [(2, .pointer (some ⟨w.heap.size, 0, none⟩)), (3, .pointer (some ⟨w.heap.size + 1, 0, none⟩))] a' → w'.heap[w.heap.size]? = some (.cells #[.int .i64 0, .string ⟨#[]⟩, .slice none 0 0, .slice none 0 0] 34 (0, 0)) → w'.heap[w.heap.size + 1]? = some (.cells #[.int .i64 11, .int .i64 (e : Nat)] 27 (0, 0)) → Below w.heap.size w w' → Q .ret a' w') (hN : c2 = 32 → ∀ a', Frm 464 [(0, .string x), (2, .pointer (some ⟨w.heap.size, 0, none⟩)), (3, .pointer (some ⟨w.heap.size + 1, 0, none⟩)), (4, .pointer (some ⟨w.heap.size + 2, 0, none⟩)), (5, .slice Aq frs.length cq), (6, .int .i64 (i : Nat)), (7, .int .i64 (n : Nat)), (8, .int .u8 (b : Nat)), (9, .pointer (some ⟨D, 0, none⟩)), (16, .string a), (17, .int .i64 (e : Nat)), (18, .int .u8 (c2 : Nat))] a' → Q .normal a' wo) : ∀ ac, Frm 464 [(0, .string x), (2, .pointer (some ⟨w.heap.size, 0, none⟩)), (3, .pointer (some ⟨w.heap.size + 1, 0, none⟩)), (4, .pointer (some ⟨w.heap.size + 2, 0, none⟩)), (5, .slice Aq frs.length cq), (6, .int .i64 (i : Nat)), (7, .int .i64 (n : Nat)), (8, .int .u8 (b : Nat)), (9, .pointer (some ⟨D, 0, none⟩)), (16, .string a), (17, .int .i64 (e : Nat)), (18, .int .u8 (c2 : Nat))] ac → Code.wp Tryd.prog c_fr_f285 Q ac wo := by
  refine frm_open ?_
  refine frame_fr ?_
  intros
  rename_i hq
  obtain ⟨-, -, e0q, e1q, e2q, e3q, e4q, e5q, e6q, e7q, e8q, e9q, e10q, e11q, -⟩ := hq
  have e0q := (Option.some.inj e0q).symm; subst e0q
  have e1q := (Option.some.inj e1q).symm; subst e1q
  have e2q := (Option.some.inj e2q).symm; subst e2q
  have e3q := (Option.some.inj e3q).symm; subst e3q
  have e4q := (Option.some.inj e4q).symm; subst e4q
  have e5q := (Option.some.inj e5q).symm; subst e5q
  have e6q := (Option.some.inj e6q).symm; subst e6q
  have e7q := (Option.some.inj e7q).symm; subst e7q
  have e8q := (Option.some.inj e8q).symm; subst e8q
  have e9q := (Option.some.inj e9q).symm; subst e9q
  have e10q := (Option.some.inj e10q).symm; subst e10q
  have e11q := (Option.some.inj e11q).symm; subst e11q
  conv => arg 2; whnf
  have HR := Lib.hid hR
  have HN := Lib.hid hN
  clear hR hN
  obtain ⟨pz, pf, pn⟩ := hz
  have HB := Lib.hid hB
  clear hB
  have pz_0 := cv0 pz
  have pz_1 := cv1 pz
  have pz_2 := cv2 pz
  have pz_3 := cv3 pz
  have pz_f0 := free_heap pz 0
  have pz_f1 := free_heap pz 1
  have pz_f2 := free_heap pz 2
  have pz_f3 := free_heap pz 3
  have pz_l := lt_heap pz
  have PZ := Lib.hid pz
  clear pz
  have pf_0 := cv0 pf
  have pf_1 := cv1 pf
  have pf_f0 := free_heap pf 0
  have pf_f1 := free_heap pf 1
  have pf_l := lt_heap pf
  have PF := Lib.hid pf
  clear pf
  have pn_0 := cv0 pn
  have pn_1 := cv1 pn
  have pn_2 := cv2 pn
  have pn_3 := cv3 pn
  have pn_l := lt_heap pn
  have PN := Lib.hid pn
  clear pn
  by_cases hc : c2 = 32
  · have t1 : (((c2 : Nat) : Int) != 32) = false := by rw [hc]; rfl
    replace HN := Lib.hid (HN.out hc)
    clear hc
    go_wp2_with fail
    exact HN.out _ (id ⟨rfl, rfl, rfl, rfl, rfl, rfl, rfl, rfl, rfl, rfl, rfl, rfl, rfl, rfl, trivial⟩)
  · have t1 : (((c2 : Nat) : Int) != 32) = true := bne_iff_ne.2 (by omega)
    replace HR := Lib.hid (HR.out hc)
    clear hc
    go_wp2_with fail
    exact HR.out _ _ (id ⟨rfl, rfl, rfl, rfl, trivial⟩) (far2 (by omega) (at4 PZ.out)) (at2 (far4 (by omega) PF.out)) (below2 (below4 HB.out (Nat.le_refl _)) (by omega))
noncomputable def c_fr_f61 : Code := sub [1, 1, 1, 1, 1, 0, 0, 0, 1, 1, 1, 1, 1, 1, 1, 0, 1, 1, 1, 1, 1, 1, 1, 1, 1, 1, 1, 0, 1, 0] (Tryd.f12.body.getD .skip)
set_option maxRecDepth 1000000 in
set_option maxHeartbeats 16000000 in
theorem fr_f61_wp {Q : Exit → Act → World → Prop} {x : ByteArray} {w : World} {frs : List F5} {Aq : Option Addr} {cq i n b D : Nat} {a : ByteArray} {e : Nat} {wo : World} (hx4 : x.size ≤ 4000) (he : e + 1 ≤ x.size) (hN : ∀ a', Frm 464 [(0, .string x), (2, .pointer (some ⟨w.heap.size, 0, none⟩)), (3, .pointer (some ⟨w.heap.size + 1, 0, none⟩)), (4, .pointer (some ⟨w.heap.size + 2, 0, none⟩)), (5, .slice Aq frs.length cq), (6, .int .i64 (i : Nat)), (7, .int .i64 (n : Nat)), (8, .int .u8 (b : Nat)), (9, .pointer (some ⟨D, 0, none⟩)), (16, .string a), (17, .int .i64 (e : Nat)), (20, .string (x.extract (e + 1) (nameE x (e + 1))))] a' → Q .normal a' wo) : ∀ ac, Frm 464 [(0, .string x), (2, .pointer (some ⟨w.heap.size, 0, none⟩)), (3, .pointer (some ⟨w.heap.size + 1, 0, none⟩)), (4, .pointer (some ⟨w.heap.size + 2, 0, none⟩)), (5, .slice Aq frs.length cq), (6, .int .i64 (i : Nat)), (7, .int .i64 (n : Nat)), (8, .int .u8 (b : Nat)), (9, .pointer (some ⟨D, 0, none⟩)), (16, .string a), (17, .int .i64 (e : Nat))] ac → Code.wp Tryd.prog c_fr_f61 Q ac wo := by
  refine frm_open ?_
  refine frame_fr ?_
  intros
  rename_i hq
  obtain ⟨-, -, e0q, e1q, e2q, e3q, e4q, e5q, e6q, e7q, e8q, e9q, e10q, -⟩ := hq
  have e0q := (Option.some.inj e0q).symm; subst e0q
  have e1q := (Option.some.inj e1q).symm; subst e1q
  have e2q := (Option.some.inj e2q).symm; subst e2q
  have e3q := (Option.some.inj e3q).symm; subst e3q
  have e4q := (Option.some.inj e4q).symm; subst e4q
  have e5q := (Option.some.inj e5q).symm; subst e5q
  have e6q := (Option.some.inj e6q).symm; subst e6q
  have e7q := (Option.some.inj e7q).symm; subst e7q
  have e8q := (Option.some.inj e8q).symm; subst e8q
  have e9q := (Option.some.inj e9q).symm; subst e9q
  have e10q := (Option.some.inj e10q).symm; subst e10q
  conv => arg 2; whnf
  have HN := Lib.hid hN
  clear hN
  have hwE : (e : Int) + 1 = ((e + 1 : Nat) : Int) := by omega
  have HWE := Lib.hid hwE
  clear hwE
  have hwd := word_any x (e + 1) wo hx4 (by omega)
  have HWD := Lib.hid hwd
  clear hwd
  go_wp2_with fail
  rw [HWE.out]
  (with_reducible refine HWD.out.mono ?_)
  rintro e w' ⟨rfl, rfl⟩
  go_wp2_with fail
  exact HN.out _ (id ⟨rfl, rfl, rfl, rfl, rfl, rfl, rfl, rfl, rfl, rfl, rfl, rfl, rfl, rfl, trivial⟩)
noncomputable def c_fr_f62 : Code := sub [1, 1, 1, 1, 1, 0, 0, 0, 1, 1, 1, 1, 1, 1, 1, 0, 1, 1, 1, 1, 1, 1, 1, 1, 1, 1, 1, 0, 1, 1, 0] (Tryd.f12.body.getD .skip)
set_option maxRecDepth 1000000 in
set_option maxHeartbeats 16000000 in
theorem fr_f62_wp {Q : Exit → Act → World → Prop} {x : ByteArray} {w : World} {frs : List F5} {Aq : Option Addr} {cq i n b D : Nat} {a : ByteArray} {e e2 : Nat} {a2 : ByteArray} {wo : World} (he : e + 1 + a2.size = e2) (h4 : e2 ≤ 9000) (hN : ∀ a', Frm 464 [(0, .string x), (2, .pointer (some ⟨w.heap.size, 0, none⟩)), (3, .pointer (some ⟨w.heap.size + 1, 0, none⟩)), (4, .pointer (some ⟨w.heap.size + 2, 0, none⟩)), (5, .slice Aq frs.length cq), (6, .int .i64 (i : Nat)), (7, .int .i64 (n : Nat)), (8, .int .u8 (b : Nat)), (9, .pointer (some ⟨D, 0, none⟩)), (16, .string a), (17, .int .i64 (e : Nat)), (20, .string a2), (21, .int .i64 (e2 : Nat))] a' → Q .normal a' wo) : ∀ ac, Frm 464 [(0, .string x), (2, .pointer (some ⟨w.heap.size, 0, none⟩)), (3, .pointer (some ⟨w.heap.size + 1, 0, none⟩)), (4, .pointer (some ⟨w.heap.size + 2, 0, none⟩)), (5, .slice Aq frs.length cq), (6, .int .i64 (i : Nat)), (7, .int .i64 (n : Nat)), (8, .int .u8 (b : Nat)), (9, .pointer (some ⟨D, 0, none⟩)), (16, .string a), (17, .int .i64 (e : Nat)), (20, .string a2)] ac → Code.wp Tryd.prog c_fr_f62 Q ac wo := by
  refine frm_open ?_
  refine frame_fr ?_
  intros
  rename_i hq
  obtain ⟨-, -, e0q, e1q, e2q, e3q, e4q, e5q, e6q, e7q, e8q, e9q, e10q, e11q, -⟩ := hq
  have e0q := (Option.some.inj e0q).symm; subst e0q
  have e1q := (Option.some.inj e1q).symm; subst e1q
  have e2q := (Option.some.inj e2q).symm; subst e2q
  have e3q := (Option.some.inj e3q).symm; subst e3q
  have e4q := (Option.some.inj e4q).symm; subst e4q
  have e5q := (Option.some.inj e5q).symm; subst e5q
  have e6q := (Option.some.inj e6q).symm; subst e6q
  have e7q := (Option.some.inj e7q).symm; subst e7q
  have e8q := (Option.some.inj e8q).symm; subst e8q
  have e9q := (Option.some.inj e9q).symm; subst e9q
  have e10q := (Option.some.inj e10q).symm; subst e10q
  have e11q := (Option.some.inj e11q).symm; subst e11q
  conv => arg 2; whnf
  have HN := Lib.hid hN
  clear hN
  have hw : (e : Int) + 1 + (a2.size : Int) = ((e2 : Nat) : Int) := by omega
  have HW := Lib.hid hw
  clear hw
  go_wp2_with fail
  rw [HW.out]
  exact HN.out _ (id ⟨rfl, rfl, rfl, rfl, rfl, rfl, rfl, rfl, rfl, rfl, rfl, rfl, rfl, rfl, rfl, trivial⟩)
noncomputable def c_fr_f311 : Code := sub [1, 1, 1, 1, 1, 0, 0, 0, 1, 1, 1, 1, 1, 1, 1, 0, 1, 1, 1, 1, 1, 1, 1, 1, 1, 1, 1, 0, 1, 1, 1, 0] (Tryd.f12.body.getD .skip)
set_option maxRecDepth 1000000 in
set_option maxHeartbeats 16000000 in
theorem fr_f311_wp {Q : Exit → Act → World → Prop} {x : ByteArray} {w : World} {frs : List F5} {Aq : Option Addr} {cq i n b D : Nat} {a : ByteArray} {e e2 : Nat} {a2 : ByteArray} {wo : World} (h4 : e2 ≤ 9000) (hz : (wo.heap[w.heap.size]? = some (.cells #[.int .i64 0, .string ⟨#[]⟩, .slice none 0 0, .slice none 0 0] 34 (0, 0)) ∧ wo.heap[w.heap.size + 1]? = some (.cells #[.int .i64 0, .int .i64 0] 27 (0, 0)) ∧ wo.heap[w.heap.size + 2]? = some (.cells #[.int .i64 0, .string ⟨#[]⟩, .slice none 0 0, .slice none 0 0] 34 (0, 0)))) (hB : Below w.heap.size w wo) (hR : (a2 = ⟨#[]⟩ ∨ byteAt x e2 ≠ 32) → ∀ a' w', Frm 464 [(2, .pointer (some ⟨w.heap.size, 0, none⟩)), (3, .pointer (some ⟨w.heap.size + 1, 0, none⟩))] a' → w'.heap[w.heap.size]? = some (.cells #[.int .i64 0, .string ⟨#[]⟩, .slice none 0 0, .slice none 0 0] 34 (0, 0)) → w'.heap[w.heap.size + 1]? = some (.cells #[.int .i64 11, .int .i64 (e2 : Nat)] 27 (0, 0)) → Below w.heap.size w w' → Q .ret a' w') (hN : a2 ≠ ⟨#[]⟩ → byteAt x e2 = 32 → ∀ a', Frm 464 [(0, .string x), (2, .pointer (some ⟨w.heap.size, 0, none⟩)), (3, .pointer (some ⟨w.heap.size + 1, 0, none⟩)), (4, .pointer (some ⟨w.heap.size + 2, 0, none⟩)), (5, .slice Aq frs.length cq), (6, .int .i64 (i : Nat)), (7, .int .i64 (n : Nat)), (8, .int .u8 (b : Nat)), (9, .pointer (some ⟨D, 0, none⟩)), (16, .string a), (17, .int .i64 (e : Nat)), (20, .string a2), (21, .int .i64 (e2 : Nat))] a' → Q .normal a' wo) : ∀ ac, Frm 464 [(0, .string x), (2, .pointer (some ⟨w.heap.size, 0, none⟩)), (3, .pointer (some ⟨w.heap.size + 1, 0, none⟩)), (4, .pointer (some ⟨w.heap.size + 2, 0, none⟩)), (5, .slice Aq frs.length cq), (6, .int .i64 (i : Nat)), (7, .int .i64 (n : Nat)), (8, .int .u8 (b : Nat)), (9, .pointer (some ⟨D, 0, none⟩)), (16, .string a), (17, .int .i64 (e : Nat)), (20, .string a2), (21, .int .i64 (e2 : Nat))] ac → Code.wp Tryd.prog c_fr_f311 Q ac wo := by
  refine frm_open ?_
  refine frame_fr ?_
  intros
  rename_i hq
  obtain ⟨-, -, e0q, e1q, e2q, e3q, e4q, e5q, e6q, e7q, e8q, e9q, e10q, e11q, e12q, -⟩ := hq
  have e0q := (Option.some.inj e0q).symm; subst e0q
  have e1q := (Option.some.inj e1q).symm; subst e1q
  have e2q := (Option.some.inj e2q).symm; subst e2q
  have e3q := (Option.some.inj e3q).symm; subst e3q
  have e4q := (Option.some.inj e4q).symm; subst e4q
  have e5q := (Option.some.inj e5q).symm; subst e5q
  have e6q := (Option.some.inj e6q).symm; subst e6q
  have e7q := (Option.some.inj e7q).symm; subst e7q
  have e8q := (Option.some.inj e8q).symm; subst e8q
  have e9q := (Option.some.inj e9q).symm; subst e9q
  have e10q := (Option.some.inj e10q).symm; subst e10q
  have e11q := (Option.some.inj e11q).symm; subst e11q
  have e12q := (Option.some.inj e12q).symm; subst e12q
  conv => arg 2; whnf
  have HR := Lib.hid hR
  have HN := Lib.hid hN
  clear hR hN
  obtain ⟨pz, pf, pn⟩ := hz
  have HB := Lib.hid hB
  clear hB
  have pz_0 := cv0 pz
  have pz_1 := cv1 pz
  have pz_2 := cv2 pz
  have pz_3 := cv3 pz
  have pz_f0 := free_heap pz 0
  have pz_f1 := free_heap pz 1
  have pz_f2 := free_heap pz 2
  have pz_f3 := free_heap pz 3
  have pz_l := lt_heap pz
  have PZ := Lib.hid pz
  clear pz
  have pf_0 := cv0 pf
  have pf_1 := cv1 pf
  have pf_f0 := free_heap pf 0
  have pf_f1 := free_heap pf 1
  have pf_l := lt_heap pf
  have PF := Lib.hid pf
  clear pf
  have pn_0 := cv0 pn
  have pn_1 := cv1 pn
  have pn_2 := cv2 pn
  have pn_3 := cv3 pn
  have pn_l := lt_heap pn
  have PN := Lib.hid pn
  clear pn
  by_cases ha : a2 = ⟨#[]⟩
  · subst ha
    replace HR := Lib.hid (HR.out (Or.inl rfl))
    go_wp2_with fail
    exact HR.out _ _ (id ⟨rfl, rfl, rfl, rfl, trivial⟩) (far2 (by omega) (at4 PZ.out)) (at2 (far4 (by omega) PF.out)) (below2 (below4 HB.out (Nat.le_refl _)) (by omega))
  have s1 : a2.toList.isEmpty = false := nonempty_of2 ha
  have s2 : (a2.toList == []) = false := beq_eq_false_iff_ne.2 (fun h => by rw [h] at s1; cases s1)
  have s3 : (a2.toList != []) = true := bne_iff_ne.2 (fun h => by rw [h] at s1; cases s1)
  replace HN := Lib.hid (HN.out ha)
  replace HR := Lib.hid (fun h => HR.out (Or.inr h))
  clear ha
  by_cases hl2 : e2 < x.size
  case neg =>
    have q1 : (x.size : Int) ≤ (e2 : Int) := by omega
    have hch : byteAt x (e2) ≠ 32 := by rw [byteAt_out (by omega)]; decide
    replace HR := Lib.hid (HR.out hch)
    clear hch
    go_wp2_with fail
    exact HR.out _ _ (id ⟨rfl, rfl, rfl, rfl, trivial⟩) (far2 (by omega) (at4 PZ.out)) (at2 (far4 (by omega) PF.out)) (below2 (below4 HB.out (Nat.le_refl _)) (by omega))
  have q1 : ¬ (x.size : Int) ≤ (e2 : Int) := by omega
  have q0 : (0 : Int) ≤ (e2 : Int) := by omega
  have q3 : (e2 : Int) < (x.size : Int) := by omega
  have hb2 : byteAt x (e2) = (x[e2]'hl2).toNat := byteAt_in hl2
  by_cases hc2 : (x[e2]'hl2).toNat = 32
  · have q2 : ((((x[e2]'hl2).toNat : Nat) : Int) != 32) = false := by rw [hc2]; rfl
    have hch : byteAt x (e2) = 32 := by rw [hb2]; exact hc2
    clear hb2 hc2
    replace HN := Lib.hid (HN.out hch)
    clear hch
    go_wp2_with fail
    exact HN.out _ (id ⟨rfl, rfl, rfl, rfl, rfl, rfl, rfl, rfl, rfl, rfl, rfl, rfl, rfl, rfl, rfl, trivial⟩)
  · have q2 : ((((x[e2]'hl2).toNat : Nat) : Int) != 32) = true := bne_iff_ne.2 (by omega)
    have hch : byteAt x (e2) ≠ 32 := by rw [hb2]; exact hc2
    clear hb2 hc2
    replace HR := Lib.hid (HR.out hch)
    clear hch
    go_wp2_with fail
    exact HR.out _ _ (id ⟨rfl, rfl, rfl, rfl, trivial⟩) (far2 (by omega) (at4 PZ.out)) (at2 (far4 (by omega) PF.out)) (below2 (below4 HB.out (Nat.le_refl _)) (by omega))
noncomputable def c_fr_f65 : Code := sub [1, 1, 1, 1, 1, 0, 0, 0, 1, 1, 1, 1, 1, 1, 1, 0, 1, 1, 1, 1, 1, 1, 1, 1, 1, 1, 1, 0, 1, 1, 1, 1, 0] (Tryd.f12.body.getD .skip)
set_option maxRecDepth 1000000 in
set_option maxHeartbeats 16000000 in
theorem fr_f65_wp {Q : Exit → Act → World → Prop} {x : ByteArray} {w : World} {frs : List F5} {Aq : Option Addr} {cq i n b D : Nat} {a : ByteArray} {e e2 : Nat} {a2 : ByteArray} {wo : World} (hN : ∀ a', Frm 464 [(0, .string x), (2, .pointer (some ⟨w.heap.size, 0, none⟩)), (3, .pointer (some ⟨w.heap.size + 1, 0, none⟩)), (4, .pointer (some ⟨w.heap.size + 2, 0, none⟩)), (5, .slice Aq frs.length cq), (6, .int .i64 (i : Nat)), (7, .int .i64 (n : Nat)), (8, .int .u8 (b : Nat)), (9, .pointer (some ⟨D, 0, none⟩)), (16, .string a), (17, .int .i64 (e : Nat)), (20, .string a2), (21, .int .i64 (e2 : Nat)), (22, .int .i64 8)] a' → Q .normal a' wo) : ∀ ac, Frm 464 [(0, .string x), (2, .pointer (some ⟨w.heap.size, 0, none⟩)), (3, .pointer (some ⟨w.heap.size + 1, 0, none⟩)), (4, .pointer (some ⟨w.heap.size + 2, 0, none⟩)), (5, .slice Aq frs.length cq), (6, .int .i64 (i : Nat)), (7, .int .i64 (n : Nat)), (8, .int .u8 (b : Nat)), (9, .pointer (some ⟨D, 0, none⟩)), (16, .string a), (17, .int .i64 (e : Nat)), (20, .string a2), (21, .int .i64 (e2 : Nat))] ac → Code.wp Tryd.prog c_fr_f65 Q ac wo := by
  refine frm_open ?_
  refine frame_fr ?_
  intros
  rename_i hq
  obtain ⟨-, -, e0q, e1q, e2q, e3q, e4q, e5q, e6q, e7q, e8q, e9q, e10q, e11q, e12q, -⟩ := hq
  have e0q := (Option.some.inj e0q).symm; subst e0q
  have e1q := (Option.some.inj e1q).symm; subst e1q
  have e2q := (Option.some.inj e2q).symm; subst e2q
  have e3q := (Option.some.inj e3q).symm; subst e3q
  have e4q := (Option.some.inj e4q).symm; subst e4q
  have e5q := (Option.some.inj e5q).symm; subst e5q
  have e6q := (Option.some.inj e6q).symm; subst e6q
  have e7q := (Option.some.inj e7q).symm; subst e7q
  have e8q := (Option.some.inj e8q).symm; subst e8q
  have e9q := (Option.some.inj e9q).symm; subst e9q
  have e10q := (Option.some.inj e10q).symm; subst e10q
  have e11q := (Option.some.inj e11q).symm; subst e11q
  have e12q := (Option.some.inj e12q).symm; subst e12q
  conv => arg 2; whnf
  have HN := Lib.hid hN
  clear hN
  go_wp2_with fail
  exact HN.out _ (id ⟨rfl, rfl, rfl, rfl, rfl, rfl, rfl, rfl, rfl, rfl, rfl, rfl, rfl, rfl, rfl, rfl, trivial⟩)
noncomputable def c_fr_f66 : Code := sub [1, 1, 1, 1, 1, 0, 0, 0, 1, 1, 1, 1, 1, 1, 1, 0, 1, 1, 1, 1, 1, 1, 1, 1, 1, 1, 1, 0, 1, 1, 1, 1, 1, 0, 0] (Tryd.f12.body.getD .skip)
set_option maxRecDepth 1000000 in
set_option maxHeartbeats 16000000 in
theorem fr_f66_wp {Q : Exit → Act → World → Prop} {x : ByteArray} {w : World} {frs : List F5} {Aq : Option Addr} {cq i n b D : Nat} {a : ByteArray} {e e2 : Nat} {a2 : ByteArray} {wo : World} (hN : ∀ a', Frm 464 [(0, .string x), (2, .pointer (some ⟨w.heap.size, 0, none⟩)), (3, .pointer (some ⟨w.heap.size + 1, 0, none⟩)), (4, .pointer (some ⟨w.heap.size + 2, 0, none⟩)), (5, .slice Aq frs.length cq), (6, .int .i64 (i : Nat)), (7, .int .i64 (n : Nat)), (8, .int .u8 (b : Nat)), (9, .pointer (some ⟨D, 0, none⟩)), (16, .string a), (17, .int .i64 (e : Nat)), (20, .string a2), (21, .int .i64 (e2 : Nat)), (22, .int .i64 8), (316, .bool (decide (a = wSome)))] a' → Q .normal a' wo) : ∀ ac, Frm 464 [(0, .string x), (2, .pointer (some ⟨w.heap.size, 0, none⟩)), (3, .pointer (some ⟨w.heap.size + 1, 0, none⟩)), (4, .pointer (some ⟨w.heap.size + 2, 0, none⟩)), (5, .slice Aq frs.length cq), (6, .int .i64 (i : Nat)), (7, .int .i64 (n : Nat)), (8, .int .u8 (b : Nat)), (9, .pointer (some ⟨D, 0, none⟩)), (16, .string a), (17, .int .i64 (e : Nat)), (20, .string a2), (21, .int .i64 (e2 : Nat)), (22, .int .i64 8)] ac → Code.wp Tryd.prog c_fr_f66 Q ac wo := by
  refine frm_open ?_
  refine frame_fr ?_
  intros
  rename_i hq
  obtain ⟨-, -, e0q, e1q, e2q, e3q, e4q, e5q, e6q, e7q, e8q, e9q, e10q, e11q, e12q, e13q, -⟩ := hq
  have e0q := (Option.some.inj e0q).symm; subst e0q
  have e1q := (Option.some.inj e1q).symm; subst e1q
  have e2q := (Option.some.inj e2q).symm; subst e2q
  have e3q := (Option.some.inj e3q).symm; subst e3q
  have e4q := (Option.some.inj e4q).symm; subst e4q
  have e5q := (Option.some.inj e5q).symm; subst e5q
  have e6q := (Option.some.inj e6q).symm; subst e6q
  have e7q := (Option.some.inj e7q).symm; subst e7q
  have e8q := (Option.some.inj e8q).symm; subst e8q
  have e9q := (Option.some.inj e9q).symm; subst e9q
  have e10q := (Option.some.inj e10q).symm; subst e10q
  have e11q := (Option.some.inj e11q).symm; subst e11q
  have e12q := (Option.some.inj e12q).symm; subst e12q
  have e13q := (Option.some.inj e13q).symm; subst e13q
  conv => arg 2; whnf
  have HN := Lib.hid hN
  clear hN
  by_cases h3 : a = wSome
  · subst h3
    rw [show decide (wSome = wSome) = true from decide_eq_true rfl] at HN
    unfold wSome at HN ⊢
    have t3 : ((⟨#[115, 111, 109, 101]⟩ : ByteArray).toList == [115, 111, 109, 101]) = true := by decide +kernel
    go_wp2_with fail
    exact HN.out _ (id ⟨rfl, rfl, rfl, rfl, rfl, rfl, rfl, rfl, rfl, rfl, rfl, rfl, rfl, rfl, rfl, rfl, rfl, trivial⟩)
  have t3 : (a.toList == [115, 111, 109, 101]) = false := ne_list h3 (by decide +kernel)
  rw [show decide (a = wSome) = false from decide_eq_false h3] at HN
  clear h3
  go_wp2_with fail
  exact HN.out _ (id ⟨rfl, rfl, rfl, rfl, rfl, rfl, rfl, rfl, rfl, rfl, rfl, rfl, rfl, rfl, rfl, rfl, rfl, trivial⟩)
noncomputable def c_fr_f67 : Code := sub [1, 1, 1, 1, 1, 0, 0, 0, 1, 1, 1, 1, 1, 1, 1, 0, 1, 1, 1, 1, 1, 1, 1, 1, 1, 1, 1, 0, 1, 1, 1, 1, 1, 0, 1, 0] (Tryd.f12.body.getD .skip)
set_option maxRecDepth 1000000 in
set_option maxHeartbeats 16000000 in
theorem fr_f67_wp {Q : Exit → Act → World → Prop} {x : ByteArray} {w : World} {frs : List F5} {Aq : Option Addr} {cq i n b D : Nat} {a : ByteArray} {e e2 : Nat} {a2 : ByteArray} {wo : World} (hN : ∀ a', Frm 464 [(0, .string x), (2, .pointer (some ⟨w.heap.size, 0, none⟩)), (3, .pointer (some ⟨w.heap.size + 1, 0, none⟩)), (4, .pointer (some ⟨w.heap.size + 2, 0, none⟩)), (5, .slice Aq frs.length cq), (6, .int .i64 (i : Nat)), (7, .int .i64 (n : Nat)), (8, .int .u8 (b : Nat)), (9, .pointer (some ⟨D, 0, none⟩)), (16, .string a), (17, .int .i64 (e : Nat)), (20, .string a2), (21, .int .i64 (e2 : Nat)), (22, .int .i64 9)] a' → Q .normal a' wo) : ∀ ac, Frm 464 [(0, .string x), (2, .pointer (some ⟨w.heap.size, 0, none⟩)), (3, .pointer (some ⟨w.heap.size + 1, 0, none⟩)), (4, .pointer (some ⟨w.heap.size + 2, 0, none⟩)), (5, .slice Aq frs.length cq), (6, .int .i64 (i : Nat)), (7, .int .i64 (n : Nat)), (8, .int .u8 (b : Nat)), (9, .pointer (some ⟨D, 0, none⟩)), (16, .string a), (17, .int .i64 (e : Nat)), (20, .string a2), (21, .int .i64 (e2 : Nat)), (22, .int .i64 8)] ac → Code.wp Tryd.prog c_fr_f67 Q ac wo := by
  refine frm_open ?_
  refine frame_fr ?_
  intros
  rename_i hq
  obtain ⟨-, -, e0q, e1q, e2q, e3q, e4q, e5q, e6q, e7q, e8q, e9q, e10q, e11q, e12q, e13q, -⟩ := hq
  have e0q := (Option.some.inj e0q).symm; subst e0q
  have e1q := (Option.some.inj e1q).symm; subst e1q
  have e2q := (Option.some.inj e2q).symm; subst e2q
  have e3q := (Option.some.inj e3q).symm; subst e3q
  have e4q := (Option.some.inj e4q).symm; subst e4q
  have e5q := (Option.some.inj e5q).symm; subst e5q
  have e6q := (Option.some.inj e6q).symm; subst e6q
  have e7q := (Option.some.inj e7q).symm; subst e7q
  have e8q := (Option.some.inj e8q).symm; subst e8q
  have e9q := (Option.some.inj e9q).symm; subst e9q
  have e10q := (Option.some.inj e10q).symm; subst e10q
  have e11q := (Option.some.inj e11q).symm; subst e11q
  have e12q := (Option.some.inj e12q).symm; subst e12q
  have e13q := (Option.some.inj e13q).symm; subst e13q
  conv => arg 2; whnf
  have HN := Lib.hid hN
  clear hN
  go_wp2_with fail
  exact HN.out _ (id ⟨rfl, rfl, rfl, rfl, rfl, rfl, rfl, rfl, rfl, rfl, rfl, rfl, rfl, rfl, rfl, rfl, trivial⟩)
noncomputable def c_fr_f68 : Code := sub [1, 1, 1, 1, 1, 0, 0, 0, 1, 1, 1, 1, 1, 1, 1, 0, 1, 1, 1, 1, 1, 1, 1, 1, 1, 1, 1, 0, 1, 1, 1, 1, 1, 1] (Tryd.f12.body.getD .skip)
set_option maxRecDepth 1000000 in
set_option maxHeartbeats 16000000 in
theorem fr_f68_wp {Q : Exit → Act → World → Prop} {x : ByteArray} {w : World} {frs : List F5} {Aq : Option Addr} {cq i n b D : Nat} {a : ByteArray} {e e2 k : Nat} {a2 : ByteArray} {wo : World} (hx4 : x.size ≤ 4000) (hi : i ≤ x.size) (hl : frs.length ≤ 39) (hm : GMem w wo frs Aq cq (D)) (hD : D < wo.heap.size) (hblk : ∀ b, (Value.slice Aq frs.length cq).ownBlock = some b → w.heap.size + 3 ≤ b ∧ b < D) (h4 : e2 ≤ 9000) (ha2 : a2.size ≤ maxLen) (hX : ∀ (gg cap : Nat) a' w', Frm 464 [(0, .string x), (2, .pointer (some ⟨w.heap.size, 0, none⟩)), (3, .pointer (some ⟨w.heap.size + 1, 0, none⟩)), (4, .pointer (some ⟨w.heap.size + 2, 0, none⟩)), (5, .slice (some ⟨gg, 0, none⟩) (frs.length + 1) cap), (6, .int .i64 (e2 + 1 : Nat)), (7, .int .i64 (n : Nat))] a' → GMem w w' (⟨.qu k a2, .slice none 0 0⟩ :: frs) (some ⟨gg, 0, none⟩) cap w'.heap.size → Q (.exit 1) a' w') : ∀ ac, Frm 464 [(0, .string x), (2, .pointer (some ⟨w.heap.size, 0, none⟩)), (3, .pointer (some ⟨w.heap.size + 1, 0, none⟩)), (4, .pointer (some ⟨w.heap.size + 2, 0, none⟩)), (5, .slice Aq frs.length cq), (6, .int .i64 (i : Nat)), (7, .int .i64 (n : Nat)), (8, .int .u8 (b : Nat)), (9, .pointer (some ⟨D, 0, none⟩)), (16, .string a), (17, .int .i64 (e : Nat)), (20, .string a2), (21, .int .i64 (e2 : Nat)), (22, .int .i64 (k : Nat))] ac → Code.wp Tryd.prog c_fr_f68 Q ac wo := by
  refine frm_open ?_
  refine frame_fr ?_
  intros
  rename_i hq
  obtain ⟨-, -, e0q, e1q, e2q, e3q, e4q, e5q, e6q, e7q, e8q, e9q, e10q, e11q, e12q, e13q, -⟩ := hq
  have e0q := (Option.some.inj e0q).symm; subst e0q
  have e1q := (Option.some.inj e1q).symm; subst e1q
  have e2q := (Option.some.inj e2q).symm; subst e2q
  have e3q := (Option.some.inj e3q).symm; subst e3q
  have e4q := (Option.some.inj e4q).symm; subst e4q
  have e5q := (Option.some.inj e5q).symm; subst e5q
  have e6q := (Option.some.inj e6q).symm; subst e6q
  have e7q := (Option.some.inj e7q).symm; subst e7q
  have e8q := (Option.some.inj e8q).symm; subst e8q
  have e9q := (Option.some.inj e9q).symm; subst e9q
  have e10q := (Option.some.inj e10q).symm; subst e10q
  have e11q := (Option.some.inj e11q).symm; subst e11q
  have e12q := (Option.some.inj e12q).symm; subst e12q
  have e13q := (Option.some.inj e13q).symm; subst e13q
  conv => arg 2; whnf
  have HX := Lib.hid hX
  clear hX
  obtain ⟨ti, hti, htz0, htz1, htz2⟩ := info_parts infoFrameF
  have hbz := GsOk.base hm.fs
  obtain ⟨hown, hfrs, ⟨pz, pf, pn⟩, hB⟩ := hm
  have HOWN := Lib.hid hown
  have HFRS := Lib.hid hfrs
  have HB := Lib.hid hB
  have HBLK := Lib.hid hblk
  clear hown hfrs hB hblk
  have pz_0 := cv0 pz
  have pz_1 := cv1 pz
  have pz_2 := cv2 pz
  have pz_3 := cv3 pz
  have pz_f0 := free_heap pz 0
  have pz_f1 := free_heap pz 1
  have pz_f2 := free_heap pz 2
  have pz_f3 := free_heap pz 3
  have pz_l := lt_heap pz
  have PZ := Lib.hid pz
  clear pz
  have pf_0 := cv0 pf
  have pf_1 := cv1 pf
  have pf_f0 := free_heap pf 0
  have pf_f1 := free_heap pf 1
  have pf_l := lt_heap pf
  have PF := Lib.hid pf
  clear pf
  have pn_0 := cv0 pn
  have pn_1 := cv1 pn
  have pn_2 := cv2 pn
  have pn_3 := cv3 pn
  have pn_l := lt_heap pn
  have PN := Lib.hid pn
  clear pn
  have hi1 : ((e2 : Int) + 1) = ((e2 + 1 : Nat) : Int) := by omega
  have HI1 := Lib.hid hi1
  clear hi1
  go_wp2_with (at_builtin; refine wpList_append_lies (wo.alloc (.cells #[.int .i64 (k : Nat), .string a2, .slice none 0 0, .slice none 0 0, .bool false] 63)) ?h1 (.tmp 317) (.tmp 322) 61 ?h2 (w.heap.size + 3) 63 ti (.agg #[.int .i64 0, .string ⟨#[]⟩, .slice none 0 0, .slice none 0 0, .bool false]) 5 80 ?h3 hti htz0 htz1 htz2 ?h4 ?h5 (.slice Aq frs.length cq) frs.length (f5Cells frs) ?h6 ?h7 ⟨wo.heap.size, 0, none⟩ 1 1 [.int .i64 (k : Nat), .string a2, .slice none 0 0, .slice none 0 0, .bool false] ?h8 ?h9 ?h10 ?h11 ?h12 ?h13 ?h14 ?h15 (wo.heap.size + 1) ?h16 ?_)
  try (case h1 => rfl)
  try (case h2 => rfl)
  try (case h3 => exact Tryd.underlying61)
  try (case h4 => rfl)
  try (case h5 => omega)
  try (case h6 => rfl)
  try (case h7 => exact HOWN.out.alloc _)
  try (case h8 => rfl)
  try (case h9 => rfl)
  try (case h10 => exact World.news_of_block (cs := #[.int .i64 (k : Nat), .string a2, .slice none 0 0, .slice none 0 0, .bool false]) (t := 63) (fr := (0, 0)) (heap_alloc_new wo _))
  try (case h11 => simp [Value.oneCell'])
  try (case h12 => omega)
  try (case h13 => first | (simp [maxLen]; omega) | (unfold maxLen; omega))
  try (case h14 => omega)
  try (case h15 => first | omega | (simp; omega))
  try (case h16 => first | rfl | simp)
  intro gg cap w6 hown3 hgrow hat hlt
  have z6 : wo.heap.size + 1 ≤ w6.heap.size := by have := hgrow.size; simpa using this
  have HOWN3 := Lib.hid hown3
  have HGROW := Lib.hid hgrow
  have HAT := Lib.hid hat
  clear hown3 hgrow hat
  go_wp2_with fail
  rw [HI1.out]
  refine HX.out gg cap _ _ (id ⟨rfl, rfl, rfl, rfl, rfl, rfl, rfl, rfl, rfl, trivial⟩) ?_
  have hkeep : ∀ b, b < wo.heap.size → (Value.slice Aq frs.length cq).ownBlock ≠ some b → w6.heap[b]? = wo.heap[b]? := fun b hb hne => (HGROW.out.block b (by simp; omega) (fun e => hne e.symm)).trans (heap_old hb rfl)
  refine ⟨?_, ?_, ⟨?_, ?_, ?_⟩, ?_⟩
  · rw [f5Cells_cons]; exact HOWN3.out
  · refine GsOk.push (HFRS.out.keep (fun b h1 h2 h3 => hkeep b (by omega) h3) (fun b hb e => ?_) (by omega)) rfl ha2
    rcases HAT.out with h | h
    · rw [h]; exact e
    · simp only [Value.ownBlock, Option.some.injEq] at e; omega
  · exact (hkeep _ (by omega) (fun e => by have := HBLK.out _ e; omega)).trans PZ.out
  · exact (hkeep _ (by omega) (fun e => by have := HBLK.out _ e; omega)).trans PF.out
  · exact (hkeep _ (by omega) (fun e => by have := HBLK.out _ e; omega)).trans PN.out
  · exact (HB.out.alloc (by omega) _).grown HGROW.out (by simp; omega) (fun k hk => by have := HBLK.out k hk; omega)
noncomputable def c_fr_f70 : Code := sub [1, 1, 1, 1, 1, 0, 0, 0, 1, 1, 1, 1, 1, 1, 1, 0, 1, 1, 1, 1, 1, 1, 1, 1, 1, 1, 1, 1] (Tryd.f12.body.getD .skip)
set_option maxRecDepth 1000000 in
set_option maxHeartbeats 16000000 in
theorem fr_f70_wp {Q : Exit → Act → World → Prop} {x : ByteArray} {w : World} {frs : List F5} {Aq : Option Addr} {cq i n b D : Nat} {a : ByteArray} {e : Nat} {wo : World} (hz : (wo.heap[w.heap.size]? = some (.cells #[.int .i64 0, .string ⟨#[]⟩, .slice none 0 0, .slice none 0 0] 34 (0, 0)) ∧ wo.heap[w.heap.size + 1]? = some (.cells #[.int .i64 0, .int .i64 0] 27 (0, 0)) ∧ wo.heap[w.heap.size + 2]? = some (.cells #[.int .i64 0, .string ⟨#[]⟩, .slice none 0 0, .slice none 0 0] 34 (0, 0)))) (hB : Below w.heap.size w wo) (hR : ∀ a' w', Frm 464 [(2, .pointer (some ⟨w.heap.size, 0, none⟩)), (3, .pointer (some ⟨w.heap.size + 1, 0, none⟩))] a' → w'.heap[w.heap.size]? = some (.cells #[.int .i64 0, .string ⟨#[]⟩, .slice none 0 0, .slice none 0 0] 34 (0, 0)) → w'.heap[w.heap.size + 1]? = some (.cells #[.int .i64 11, .int .i64 (e : Nat)] 27 (0, 0)) → Below w.heap.size w w' → Q .ret a' w') : ∀ ac, Frm 464 [(0, .string x), (2, .pointer (some ⟨w.heap.size, 0, none⟩)), (3, .pointer (some ⟨w.heap.size + 1, 0, none⟩)), (4, .pointer (some ⟨w.heap.size + 2, 0, none⟩)), (5, .slice Aq frs.length cq), (6, .int .i64 (i : Nat)), (7, .int .i64 (n : Nat)), (8, .int .u8 (b : Nat)), (9, .pointer (some ⟨D, 0, none⟩)), (16, .string a), (17, .int .i64 (e : Nat))] ac → Code.wp Tryd.prog c_fr_f70 Q ac wo := by
  refine frm_open ?_
  refine frame_fr ?_
  intros
  rename_i hq
  obtain ⟨-, -, e0q, e1q, e2q, e3q, e4q, e5q, e6q, e7q, e8q, e9q, e10q, -⟩ := hq
  have e0q := (Option.some.inj e0q).symm; subst e0q
  have e1q := (Option.some.inj e1q).symm; subst e1q
  have e2q := (Option.some.inj e2q).symm; subst e2q
  have e3q := (Option.some.inj e3q).symm; subst e3q
  have e4q := (Option.some.inj e4q).symm; subst e4q
  have e5q := (Option.some.inj e5q).symm; subst e5q
  have e6q := (Option.some.inj e6q).symm; subst e6q
  have e7q := (Option.some.inj e7q).symm; subst e7q
  have e8q := (Option.some.inj e8q).symm; subst e8q
  have e9q := (Option.some.inj e9q).symm; subst e9q
  have e10q := (Option.some.inj e10q).symm; subst e10q
  conv => arg 2; whnf
  have HR := Lib.hid hR
  clear hR
  obtain ⟨pz, pf, pn⟩ := hz
  have HB := Lib.hid hB
  clear hB
  have pz_0 := cv0 pz
  have pz_1 := cv1 pz
  have pz_2 := cv2 pz
  have pz_3 := cv3 pz
  have pz_f0 := free_heap pz 0
  have pz_f1 := free_heap pz 1
  have pz_f2 := free_heap pz 2
  have pz_f3 := free_heap pz 3
  have pz_l := lt_heap pz
  have PZ := Lib.hid pz
  clear pz
  have pf_0 := cv0 pf
  have pf_1 := cv1 pf
  have pf_f0 := free_heap pf 0
  have pf_f1 := free_heap pf 1
  have pf_l := lt_heap pf
  have PF := Lib.hid pf
  clear pf
  have pn_0 := cv0 pn
  have pn_1 := cv1 pn
  have pn_2 := cv2 pn
  have pn_3 := cv3 pn
  have pn_l := lt_heap pn
  have PN := Lib.hid pn
  clear pn
  go_wp2_with fail
  exact HR.out _ _ (id ⟨rfl, rfl, rfl, rfl, trivial⟩) (far2 (by omega) (at4 PZ.out)) (at2 (far4 (by omega) PF.out)) (below2 (below4 HB.out (Nat.le_refl _)) (by omega))

end Go.Proofs.YtnoceodmnjhljabDoor
