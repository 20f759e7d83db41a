/-
  FormRead by parts: a predicate's words.
-/
import Derived.Test.YtnoceodmnjhljabDoorFrC
import Derived.Deep.DeepCutAuto
import Derived.Deep.RegionLaw
import Derived.BigQuiet
namespace Go.Proofs.YtnoceodmnjhljabDoor
open Go Go.RowKit
set_option linter.unusedSimpArgs false
set_option linter.unusedVariables false

noncomputable def c_fr_f52w : Code := sub [1, 1, 1, 1, 1, 0, 0, 0, 1, 1, 1, 1, 1, 1, 1, 0, 1, 1, 1, 1, 1, 1, 1, 0, 1, 1, 1, 1, 0, 0, 0, 1, 1, 1, 0] (Tryd.f12.body.getD .skip)
set_option maxRecDepth 1000000 in
set_option maxHeartbeats 16000000 in
theorem fr_f52w_wp {Q : Exit → Act → World → Prop} {x : ByteArray} {w : World} {frs : List F5} {Aq : Option Addr} {cq i n b D : Nat} {a2 : ByteArray} {a : ByteArray} {l : List ByteArray} {v : Value} {wo wx : World} (hl4 : l.length ≤ 4) (ha2 : a2.size ≤ maxLen) (hDo : D < wo.heap.size) (hW : w.heap.size + 3 ≤ D) (hblk : ∀ b, (Value.slice Aq frs.length cq).ownBlock = some b → w.heap.size + 3 ≤ b ∧ b < D) (hp : PredF w wo wx frs Aq cq D a l v) (hN : ∀ v' a' wx', Frm 464 [(0, .string x), (2, .pointer (some ⟨w.heap.size, 0, none⟩)), (3, .pointer (some ⟨w.heap.size + 1, 0, none⟩)), (4, .pointer (some ⟨w.heap.size + 2, 0, none⟩)), (5, .slice Aq frs.length cq), (6, .int .i64 (i : Nat)), (7, .int .i64 (n : Nat)), (8, .int .u8 (b : Nat)), (9, .pointer (some ⟨D, 0, none⟩)), (19, .string a2)] a' → PredF w wo wx' frs Aq cq D a (l ++ [a2]) v' → Q .normal a' wx') : ∀ ac, Frm 464 [(0, .string x), (2, .pointer (some ⟨w.heap.size, 0, none⟩)), (3, .pointer (some ⟨w.heap.size + 1, 0, none⟩)), (4, .pointer (some ⟨w.heap.size + 2, 0, none⟩)), (5, .slice Aq frs.length cq), (6, .int .i64 (i : Nat)), (7, .int .i64 (n : Nat)), (8, .int .u8 (b : Nat)), (9, .pointer (some ⟨D, 0, none⟩)), (19, .string a2)] ac → Code.wp Tryd.prog c_fr_f52w Q ac wx := by
  refine frm_open ?_
  refine frame_fr ?_
  intros
  rename_i hq
  obtain ⟨-, -, e0q, e1q, e2q, e3q, e4q, e5q, e6q, e7q, e8q, e9q, -⟩ := hq
  have e0q := (Option.some.inj e0q).symm; subst e0q
  have e1q := (Option.some.inj e1q).symm; subst e1q
  have e2q := (Option.some.inj e2q).symm; subst e2q
  have e3q := (Option.some.inj e3q).symm; subst e3q
  have e4q := (Option.some.inj e4q).symm; subst e4q
  have e5q := (Option.some.inj e5q).symm; subst e5q
  have e6q := (Option.some.inj e6q).symm; subst e6q
  have e7q := (Option.some.inj e7q).symm; subst e7q
  have e8q := (Option.some.inj e8q).symm; subst e8q
  have e9q := (Option.some.inj e9q).symm; subst e9q
  conv => arg 2; whnf
  have HN := Lib.hid hN
  clear hN
  obtain ⟨ts, hts, ht0, ht1, ht2⟩ := info_parts infoStr
  obtain ⟨Av, cv, rfl⟩ := hp.o.len
  obtain ⟨xs, hvo, hall⟩ := hp.o
  have hll : l.length ≤ 4 := hl4
  have hbz := GsOk.base hp.m.fs
  have hvl : ∀ b, (Value.slice Av l.length cv).ownBlock = some b → wo.heap.size ≤ b ∧ b < wx.heap.size := hvo.lt
  have hle := hp.le
  have pd := hp.d
  have HM := Lib.hid hp.m
  clear hp
  have HVO := Lib.hid hvo
  have HALL := Lib.hid hall
  have HVL := Lib.hid hvl
  clear hvo hall hvl
  have pd_0 := cv0 pd
  have pd_1 := cv1 pd
  have pd_2 := cv2 pd
  have pd_3 := cv3 pd
  have pd_f0 := free_heap pd 0
  have pd_f1 := free_heap pd 1
  have pd_f2 := free_heap pd 2
  have pd_f3 := free_heap pd 3
  have pd_l := lt_heap pd
  have PD := Lib.hid pd
  clear pd
  go_wp2_with (at_builtin; refine wpList_append_lies (wx.alloc (.cells #[.string a2] 9)) ?h1 (.tmp 262) (.tmp 264) 31 ?h2 wo.heap.size 9 ts (.string ⟨#[]⟩) 1 16 ?h3 hts ht0 ht1 ht2 ?h4 ?h5 (.slice Av l.length cv) l.length xs ?h6 ?h7 ⟨wx.heap.size, 0, none⟩ 1 1 [.string a2] ?h8 ?h9 ?h10 ?h11 ?h12 ?h13 ?h14 ?h15 (wx.heap.size + 1) ?h16 ?_)
  try (case h1 => rfl)
  try (case h2 => rfl)
  try (case h3 => exact Tryd.underlying31)
  try (case h4 => rfl)
  try (case h5 => omega)
  try (case h6 => rfl)
  try (case h7 => exact HVO.out.alloc _)
  try (case h8 => rfl)
  try (case h9 => rfl)
  try (case h10 => exact World.news_of_block (cs := #[.string a2]) (t := 9) (fr := (0, 0)) (heap_alloc_new wx _))
  try (case h11 => simp [Value.oneCell'])
  try (case h12 => omega)
  try (case h13 => first | (simp [maxLen]; omega) | (unfold maxLen; omega))
  try (case h14 => omega)
  try (case h15 => first | omega | (simp; omega))
  try (case h16 => first | rfl | simp)
  intro gg cap w6 hown3 hgrow hat hlt
  have z6 : wx.heap.size + 1 ≤ w6.heap.size := by have := hgrow.size; simpa using this
  have hkeep : ∀ b, b < wx.heap.size → (Value.slice Av l.length cv).ownBlock ≠ some b → w6.heap[b]? = wx.heap[b]? := fun b hb hne => (hgrow.block b (by simp; omega) (fun e => hne e.symm)).trans (heap_old hb rfl)
  have hfar : ∀ b, b < wo.heap.size → w6.heap[b]? = wx.heap[b]? := fun b hb => hkeep b (by omega) (fun e => by have := (HVL.out b e).1; omega)
  have hgg : wo.heap.size ≤ gg := by
    rcases hat with h | h
    · exact (HVL.out gg h).1
    · omega
  have qd := (hfar D hDo).trans PD.out
  clear pd_0 pd_1 pd_2 pd_3 pd_f0 pd_f1 pd_f2 pd_f3 pd_l
  have HOWN3 := Lib.hid hown3
  have HGROW := Lib.hid hgrow
  have HAT := Lib.hid hat
  have HKEEP := Lib.hid hkeep
  have HFAR := Lib.hid hfar
  clear hown3 hgrow hat hkeep hfar
  have qd_0 := cv0 qd
  have qd_1 := cv1 qd
  have qd_2 := cv2 qd
  have qd_3 := cv3 qd
  have qd_f0 := free_heap qd 0
  have qd_f1 := free_heap qd 1
  have qd_f2 := free_heap qd 2
  have qd_f3 := free_heap qd 3
  have qd_l := lt_heap qd
  have QD := Lib.hid qd
  clear qd
  go_wp2_with fail
  obtain ⟨⟨mown, mfs, ⟨mz1, mz2, mz3⟩, mB⟩⟩ : Nonempty (GMem w wx frs Aq cq D) := ⟨HM.out⟩
  have hfx : ∀ b, b < wo.heap.size → b ≠ D → (w6.setCell ⟨D, 2, none⟩ (.slice (some ⟨gg, 0, none⟩) (l.length + 1) cap)).heap[b]? = wx.heap[b]? := fun b hb hne => (heap_far _ hne rfl).trans (HFAR.out b hb)
  refine HN.out (.slice (some ⟨gg, 0, none⟩) (l.length + 1) cap) _ _ (id ⟨rfl, rfl, rfl, rfl, rfl, rfl, rfl, rfl, rfl, rfl, rfl, rfl, trivial⟩) ⟨⟨?_, ?_, ⟨?_, ?_, ?_⟩, ?_⟩, ?_, ?_, ?_⟩
  · exact rowOther (rowGrown mown (fun b hb e => HFAR.out b (by have := (hblk b e).2; omega))) (fun e => by have := (hblk D e).2; omega)
  · exact mfs.keep (fun b h1 h2 h3 => hfx b (by omega) (by omega)) (fun _ _ e => e) (Nat.le_refl _)
  · exact (hfx _ (by omega) (by omega)).trans mz1
  · exact (hfx _ (by omega) (by omega)).trans mz2
  · exact (hfx _ (by omega) (by omega)).trans mz3
  · exact ((mB.alloc (by omega) (.cells #[.string a2] 9)).grown HGROW.out (by simp; omega) (fun k hk => by have := (HVL.out k hk).1; omega)).setCell (show w.heap.size ≤ D by omega) _
  · exact heap_set QD.out 2 _
  · refine ⟨xs ++ [.string a2], ?_, ?_⟩
    · rw [List.length_append]
      exact rowOther HOWN3.out (fun e => by have e2 : gg = D := Option.some.inj e; omega)
    · exact Rep.All.append (HALL.out.keep (S' := fun b => (wo.heap.size ≤ b ∧ b < (w6.setCell ⟨D, 2, none⟩ (.slice (some ⟨gg, 0, none⟩) (l.length + 1) cap)).heap.size) ∧ (Value.slice (some ⟨gg, 0, none⟩) (l.length + 1) cap).ownBlock ≠ some b) (fun b hb => (heap_far _ (by have := hb.1.1; omega) rfl).trans (HKEEP.out b hb.1.2 hb.2)) (fun b hb => ⟨⟨hb.1.1, by rw [size_set]; have := hb.1.2; omega⟩, fun e => by
        have e2 : gg = b := Option.some.inj e
        rcases HAT.out with h | h
        · exact hb.2 (by rw [h, e2])
        · have := hb.1.2; omega⟩)) (Rep.All.single ⟨rfl, ha2⟩)
  · rw [size_set]; omega
noncomputable def c_fr_f53 : Code := sub [1, 1, 1, 1, 1, 0, 0, 0, 1, 1, 1, 1, 1, 1, 1, 0, 1, 1, 1, 1, 1, 1, 1, 0, 1, 1, 1, 1, 0, 0, 0, 1, 1, 1, 1, 0] (Tryd.f12.body.getD .skip)
set_option maxRecDepth 1000000 in
set_option maxHeartbeats 16000000 in
theorem fr_f53_wp {Q : Exit → Act → World → Prop} {x : ByteArray} {w : World} {frs : List F5} {Aq : Option Addr} {cq i n b D : Nat} {a2 : ByteArray} {wo : World} (h4 : i ≤ 9000) (hN : ∀ a', Frm 464 [(0, .string x), (2, .pointer (some ⟨w.heap.size, 0, none⟩)), (3, .pointer (some ⟨w.heap.size + 1, 0, none⟩)), (4, .pointer (some ⟨w.heap.size + 2, 0, none⟩)), (5, .slice Aq frs.length cq), (6, .int .i64 (i + 1 : Nat)), (7, .int .i64 (n : Nat)), (8, .int .u8 (b : Nat)), (9, .pointer (some ⟨D, 0, none⟩)), (19, .string a2)] a' → Q .normal a' wo) : ∀ ac, Frm 464 [(0, .string x), (2, .pointer (some ⟨w.heap.size, 0, none⟩)), (3, .pointer (some ⟨w.heap.size + 1, 0, none⟩)), (4, .pointer (some ⟨w.heap.size + 2, 0, none⟩)), (5, .slice Aq frs.length cq), (6, .int .i64 (i : Nat)), (7, .int .i64 (n : Nat)), (8, .int .u8 (b : Nat)), (9, .pointer (some ⟨D, 0, none⟩)), (19, .string a2)] ac → Code.wp Tryd.prog c_fr_f53 Q ac wo := by
  refine frm_open ?_
  refine frame_fr ?_
  intros
  rename_i hq
  obtain ⟨-, -, e0q, e1q, e2q, e3q, e4q, e5q, e6q, e7q, e8q, e9q, -⟩ := hq
  have e0q := (Option.some.inj e0q).symm; subst e0q
  have e1q := (Option.some.inj e1q).symm; subst e1q
  have e2q := (Option.some.inj e2q).symm; subst e2q
  have e3q := (Option.some.inj e3q).symm; subst e3q
  have e4q := (Option.some.inj e4q).symm; subst e4q
  have e5q := (Option.some.inj e5q).symm; subst e5q
  have e6q := (Option.some.inj e6q).symm; subst e6q
  have e7q := (Option.some.inj e7q).symm; subst e7q
  have e8q := (Option.some.inj e8q).symm; subst e8q
  have e9q := (Option.some.inj e9q).symm; subst e9q
  conv => arg 2; whnf
  have HN := Lib.hid hN
  clear hN
  have hw : (i : Int) + 1 = ((i + 1 : Nat) : Int) := by omega
  have HW := Lib.hid hw
  clear hw
  go_wp2_with fail
  rw [HW.out]
  exact HN.out _ (id ⟨rfl, rfl, rfl, rfl, rfl, rfl, rfl, rfl, rfl, rfl, rfl, rfl, trivial⟩)
noncomputable def c_fr_f273 : Code := sub [1, 1, 1, 1, 1, 0, 0, 0, 1, 1, 1, 1, 1, 1, 1, 0, 1, 1, 1, 1, 1, 1, 1, 0, 1, 1, 1, 1, 0, 0, 0, 1, 1, 1, 1, 1] (Tryd.f12.body.getD .skip)
set_option maxRecDepth 1000000 in
set_option maxHeartbeats 16000000 in
theorem fr_f273_wp {Q : Exit → Act → World → Prop} {x : ByteArray} {w : World} {frs : List F5} {Aq : Option Addr} {cq i n b D : Nat} {a2 : ByteArray} {wo : World} (hi : i < x.size) (h4 : x.size ≤ 4000) (hX : byteAt x i = 41 → ∀ a', Frm 464 [(0, .string x), (2, .pointer (some ⟨w.heap.size, 0, none⟩)), (3, .pointer (some ⟨w.heap.size + 1, 0, none⟩)), (4, .pointer (some ⟨w.heap.size + 2, 0, none⟩)), (5, .slice Aq frs.length cq), (6, .int .i64 (i + 1 : Nat)), (7, .int .i64 (n : Nat)), (8, .int .u8 (b : Nat)), (9, .pointer (some ⟨D, 0, none⟩))] a' → Q (.exit 2) a' wo) (hN : byteAt x i ≠ 41 → ∀ a', Frm 464 [(0, .string x), (2, .pointer (some ⟨w.heap.size, 0, none⟩)), (3, .pointer (some ⟨w.heap.size + 1, 0, none⟩)), (4, .pointer (some ⟨w.heap.size + 2, 0, none⟩)), (5, .slice Aq frs.length cq), (6, .int .i64 (i + 1 : Nat)), (7, .int .i64 (n : Nat)), (8, .int .u8 (b : Nat)), (9, .pointer (some ⟨D, 0, none⟩))] a' → Q .normal a' wo) : ∀ ac, Frm 464 [(0, .string x), (2, .pointer (some ⟨w.heap.size, 0, none⟩)), (3, .pointer (some ⟨w.heap.size + 1, 0, none⟩)), (4, .pointer (some ⟨w.heap.size + 2, 0, none⟩)), (5, .slice Aq frs.length cq), (6, .int .i64 (i + 1 : Nat)), (7, .int .i64 (n : Nat)), (8, .int .u8 (b : Nat)), (9, .pointer (some ⟨D, 0, none⟩)), (19, .string a2)] ac → Code.wp Tryd.prog c_fr_f273 Q ac wo := by
  refine frm_open ?_
  refine frame_fr ?_
  intros
  rename_i hq
  obtain ⟨-, -, e0q, e1q, e2q, e3q, e4q, e5q, e6q, e7q, e8q, e9q, -⟩ := hq
  have e0q := (Option.some.inj e0q).symm; subst e0q
  have e1q := (Option.some.inj e1q).symm; subst e1q
  have e2q := (Option.some.inj e2q).symm; subst e2q
  have e3q := (Option.some.inj e3q).symm; subst e3q
  have e4q := (Option.some.inj e4q).symm; subst e4q
  have e5q := (Option.some.inj e5q).symm; subst e5q
  have e6q := (Option.some.inj e6q).symm; subst e6q
  have e7q := (Option.some.inj e7q).symm; subst e7q
  have e8q := (Option.some.inj e8q).symm; subst e8q
  have e9q := (Option.some.inj e9q).symm; subst e9q
  conv => arg 2; whnf
  have HX := Lib.hid hX
  have HN := Lib.hid hN
  clear hX hN
  have q0 : (0 : Int) ≤ (i : Int) := by omega
  have q3 : (i : Int) < (x.size : Int) := by omega
  have hw1 : ((i + 1 : Nat) : Int) - 1 = (i : Int) := by omega
  have hw2 : (i : Int) + 1 - 1 = (i : Int) := by omega
  have hb2 := byteAt_in hi
  by_cases hc : (x[i]'hi).toNat = 41
  · have q2 : ((((x[i]'hi).toNat : Nat) : Int) == 41) = true := by rw [hc]; rfl
    replace HX := Lib.hid (HX.out (by rw [hb2]; exact hc))
    clear hb2 hc
    go_wp2_with fail
    exact HX.out _ (id ⟨rfl, rfl, rfl, rfl, rfl, rfl, rfl, rfl, rfl, rfl, rfl, trivial⟩)
  · have q2 : ((((x[i]'hi).toNat : Nat) : Int) == 41) = false := beq_eq_false_iff_ne.2 (by omega)
    replace HN := Lib.hid (HN.out (by rw [hb2]; exact hc))
    clear hb2 hc
    go_wp2_with fail
    exact HN.out _ (id ⟨rfl, rfl, rfl, rfl, rfl, rfl, rfl, rfl, rfl, rfl, rfl, trivial⟩)
theorem ext_size {x : ByteArray} {i e : Nat} (h1 : i ≤ e) (h2 : e ≤ x.size) : (x.extract i e).size = e - i := by rw [ByteArray.size_extract]; omega
theorem ext_nil {x : ByteArray} {i e : Nat} (h1 : i ≤ e) (h2 : e ≤ x.size) : x.extract i e = ⟨#[]⟩ ↔ e = i := by
  constructor
  · intro h
    have := ext_size h1 h2
    rw [h] at this
    have h0 : (⟨#[]⟩ : ByteArray).size = 0 := by decide +kernel
    omega
  · rintro rfl
    have h3 := ext_size (Nat.le_refl e) h2
    rw [Nat.sub_self] at h3
    obtain ⟨d, hd⟩ : ∃ d, x.extract e e = ⟨d⟩ := ⟨_, rfl⟩
    rw [hd] at h3 ⊢
    have h4 : d = #[] := Array.eq_empty_of_size_eq_zero h3
    rw [h4]
noncomputable def c_fr_wloop : Code := sub [1, 1, 1, 1, 1, 0, 0, 0, 1, 1, 1, 1, 1, 1, 1, 0, 1, 1, 1, 1, 1, 1, 1, 0, 1, 1, 1, 1, 0] (Tryd.f12.body.getD .skip)
set_option maxRecDepth 100000 in
theorem fr_wloop_wp {Q : Exit → Act → World → Prop} {x : ByteArray} {w : World} {frs : List F5} {Aq : Option Addr} {cq i n b D : Nat} {a : ByteArray} {v : Value} {wo wi : World} (hx4 : x.size ≤ 4000) (hi : i ≤ x.size) (hDo : D < wo.heap.size) (hW : w.heap.size + 3 ≤ D) (hblk : ∀ b, (Value.slice Aq frs.length cq).ownBlock = some b → w.heap.size + 3 ≤ b ∧ b < D) (hp : PredF w wo wi frs Aq cq D a [] v)
    (hR : ∀ j, wordsG x 3 [] i = .bad j → ∀ a' w', Frm 464 [(2, .pointer (some ⟨w.heap.size, 0, none⟩)), (3, .pointer (some ⟨w.heap.size + 1, 0, none⟩))] a' → w'.heap[w.heap.size]? = some (.cells #[.int .i64 0, .string ⟨#[]⟩, .slice none 0 0, .slice none 0 0] 34 (0, 0)) → w'.heap[w.heap.size + 1]? = some (.cells #[.int .i64 11, .int .i64 (j : Nat)] 27 (0, 0)) → Below w.heap.size w w' → Q .ret a' w') (hX : ∀ l j v' a' wx, wordsG x 3 [] i = .ok l j → j ≤ x.size → i ≤ j → l.length ≤ 4 → Frm 464 [(0, .string x), (2, .pointer (some ⟨w.heap.size, 0, none⟩)), (3, .pointer (some ⟨w.heap.size + 1, 0, none⟩)), (4, .pointer (some ⟨w.heap.size + 2, 0, none⟩)), (5, .slice Aq frs.length cq), (6, .int .i64 (j : Nat)), (7, .int .i64 (n : Nat)), (8, .int .u8 (b : Nat)), (9, .pointer (some ⟨D, 0, none⟩))] a' → PredF w wo wx frs Aq cq D a l v' → Q (.exit 2) a' wx) : ∀ ac, Frm 464 [(0, .string x), (2, .pointer (some ⟨w.heap.size, 0, none⟩)), (3, .pointer (some ⟨w.heap.size + 1, 0, none⟩)), (4, .pointer (some ⟨w.heap.size + 2, 0, none⟩)), (5, .slice Aq frs.length cq), (6, .int .i64 (i : Nat)), (7, .int .i64 (n : Nat)), (8, .int .u8 (b : Nat)), (9, .pointer (some ⟨D, 0, none⟩))] ac → Code.wp Tryd.prog c_fr_wloop Q ac wi := by
  intro a0 hf0
  conv => arg 2; whnf
  refine wp_loopR (fun g a' w' => ∃ (l : List ByteArray) (i2 : Nat) (v2 : Value), l.length + g = 3 ∧ l.length ≤ 2 ∧ i ≤ i2 ∧ i2 ≤ x.size ∧ wordsG x g l i2 = wordsG x 3 [] i ∧ PredF w wo w' frs Aq cq D a l v2 ∧ Frm 464 [(0, .string x), (2, .pointer (some ⟨w.heap.size, 0, none⟩)), (3, .pointer (some ⟨w.heap.size + 1, 0, none⟩)), (4, .pointer (some ⟨w.heap.size + 2, 0, none⟩)), (5, .slice Aq frs.length cq), (6, .int .i64 (i2 : Nat)), (7, .int .i64 (n : Nat)), (8, .int .u8 (b : Nat)), (9, .pointer (some ⟨D, 0, none⟩))] a') 3 ⟨[], i, v, rfl, by simp, Nat.le_refl _, hi, rfl, hp, hf0⟩ ?_
  rintro g a1 w1 ⟨l, i2, v2, hg, hlg, hii, hix, hrun, hp2, hfr⟩
  refine wp_block ?_
  refine wp_seq ?_
  refine fr_f48_wp hx4 hix (fun a2 h2 => ?_) a1 hfr
  have he1 := nameE_ge x i2
  have he2 := nameE_top hix
  have hsz := ext_size he1 he2
  obtain ⟨e, hE⟩ : ∃ e, nameE x i2 = e := ⟨_, rfl⟩
  rw [hE] at h2 he1 he2 hsz
  refine wp_seq ?_
  refine fr_f49_wp (e := e) (by omega) (by omega) (fun a3 h3 => ?_) a2 h2
  have hg0 : wordsG x g l i2 = match g with
      | 0 => .bad i2
      | f + 1 => if e = i2 then .bad i2 else if byteAt x e = 41 then .ok (l ++ [x.extract i2 e]) (e + 1) else if byteAt x e = 44 ∧ l.length < 2 then wordsG x f (l ++ [x.extract i2 e]) (e + 1) else .bad e := by
    rw [← hE]
    cases g <;> rfl
  refine wp_seq ?_
  refine fr_f257_wp (wo := wo) (l := l) (by omega) hp2 (fun hbad => ?_) (fun hok a4 h4 => ?_) a3 h3
  · refine hR e ?_
    rw [← hrun, hg0]
    cases g with
    | zero => exact absurd hg (by omega)
    | succ f =>
      simp only
      by_cases h1 : e = i2
      · rw [if_pos h1, h1]
      · rw [if_neg h1]
        have h2 : x.extract i2 e ≠ ⟨#[]⟩ := fun h => h1 ((ext_nil he1 he2).1 h)
        rw [if_neg (fun h => hbad ⟨h2, Or.inl h⟩), if_neg (fun h => hbad ⟨h2, Or.inr ⟨h.1, by omega⟩⟩)]
  obtain ⟨hne, hbyte⟩ := hok
  have hne2 : e ≠ i2 := fun h => hne ((ext_nil he1 he2).2 h)
  have hex : e < x.size := byteAt_lt (by rcases hbyte with h | ⟨h, _⟩ <;> omega)
  refine wp_seq ?_
  refine fr_f52w_wp (wo := wo) (by omega) (ext_le2 x i2 e hx4) hDo hW hblk hp2 (fun v5 a5 w5 h5 hp5 => ?_) a4 h4
  refine wp_seq ?_
  refine fr_f53_wp (by omega) (fun a6 h6 => ?_) a5 h5
  refine fr_f273_wp hex hx4 (fun h41 a7 h7 => ?_) (fun h41 a7 h7 => ?_) a6 h6
  · refine inBlock_far (by decide) (hX _ (e + 1) v5 a7 w5 ?_ (by omega) (by omega) (by simp; omega) h7 hp5)
    rw [← hrun, hg0]
    cases g with
    | zero => exact absurd hg (by omega)
    | succ f => simp only; rw [if_neg hne2, if_pos h41]
  · rcases hbyte with h | ⟨h44, hl2⟩
    · exact absurd h h41
    cases g with
    | zero => exact absurd hg (by omega)
    | succ f =>
      refine ⟨f, Nat.lt_succ_self _, _, e + 1, v5, by simp; omega, by simp; omega, by omega, by omega, ?_, hp5, h7⟩
      rw [← hrun, hg0]
      simp only
      rw [if_neg hne2, if_neg h41, if_pos ⟨h44, by omega⟩]

end Go.Proofs.YtnoceodmnjhljabDoor
