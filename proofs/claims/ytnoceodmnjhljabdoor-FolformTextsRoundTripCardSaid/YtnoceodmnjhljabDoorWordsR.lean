/-
  (*folform.reader).words: the walk, by parts.
-/
import Derived.Test.YtnoceodmnjhljabDoorNameR
import Derived.Test.YtnoceodmnjhljabDoorFrd
import Derived.Test.YtnoceodmnjhljabDoorRow1
import Derived.Deep.AppendLies
namespace Go.Proofs.YtnoceodmnjhljabDoor
open Go Go.RowKit
set_option linter.unusedSimpArgs false
set_option linter.unusedVariables false

set_option maxRecDepth 1000000 in
theorem frame_wd {P : Act → Prop} (h : ∀ x0 x1 x2 x3 x4 x5 x6 x7 x8 x9 x10 x11 x12 x13 x14 x15 x16 x17 x18 x19 x20 x21 x22 x23 x24 x25 x26 x27 x28 x29 x30 x31 x32 x33 x34 x35 x36 x37 x38 x39 x40 x41 x42 x43 x44 x45 x46 x47 x48 x49 x50 x51 x52 x53 : Value, P ⟨(x0 :: x1 :: x2 :: x3 :: x4 :: x5 :: x6 :: x7 :: x8 :: x9 :: x10 :: x11 :: x12 :: x13 :: x14 :: x15 :: x16 :: x17 :: x18 :: x19 :: x20 :: x21 :: x22 :: x23 :: x24 :: x25 :: x26 :: x27 :: x28 :: x29 :: x30 :: x31 :: x32 :: x33 :: x34 :: x35 :: x36 :: x37 :: x38 :: x39 :: x40 :: x41 :: x42 :: x43 :: x44 :: x45 :: x46 :: x47 :: x48 :: x49 :: x50 :: x51 :: x52 :: x53 :: []).toArray, []⟩) : ∀ a : Act, a.tmps.toList.length = 54 → a.defers = [] → P a := by
  rintro ⟨⟨l⟩, d⟩ hs hd
  simp only at hd
  subst hd
  revert l
  show ∀ l : List Value, l.length = 54 → P ⟨⟨l⟩, []⟩
  refine openS (n := 53) (fun x0 => ?_)
  refine openS (n := 52) (fun x1 => ?_)
  refine openS (n := 51) (fun x2 => ?_)
  refine openS (n := 50) (fun x3 => ?_)
  refine openS (n := 49) (fun x4 => ?_)
  refine openS (n := 48) (fun x5 => ?_)
  refine openS (n := 47) (fun x6 => ?_)
  refine openS (n := 46) (fun x7 => ?_)
  refine openS (n := 45) (fun x8 => ?_)
  refine openS (n := 44) (fun x9 => ?_)
  refine openS (n := 43) (fun x10 => ?_)
  refine openS (n := 42) (fun x11 => ?_)
  refine openS (n := 41) (fun x12 => ?_)
  refine openS (n := 40) (fun x13 => ?_)
  refine openS (n := 39) (fun x14 => ?_)
  refine openS (n := 38) (fun x15 => ?_)
  refine openS (n := 37) (fun x16 => ?_)
  refine openS (n := 36) (fun x17 => ?_)
  refine openS (n := 35) (fun x18 => ?_)
  refine openS (n := 34) (fun x19 => ?_)
  refine openS (n := 33) (fun x20 => ?_)
  refine openS (n := 32) (fun x21 => ?_)
  refine openS (n := 31) (fun x22 => ?_)
  refine openS (n := 30) (fun x23 => ?_)
  refine openS (n := 29) (fun x24 => ?_)
  refine openS (n := 28) (fun x25 => ?_)
  refine openS (n := 27) (fun x26 => ?_)
  refine openS (n := 26) (fun x27 => ?_)
  refine openS (n := 25) (fun x28 => ?_)
  refine openS (n := 24) (fun x29 => ?_)
  refine openS (n := 23) (fun x30 => ?_)
  refine openS (n := 22) (fun x31 => ?_)
  refine openS (n := 21) (fun x32 => ?_)
  refine openS (n := 20) (fun x33 => ?_)
  refine openS (n := 19) (fun x34 => ?_)
  refine openS (n := 18) (fun x35 => ?_)
  refine openS (n := 17) (fun x36 => ?_)
  refine openS (n := 16) (fun x37 => ?_)
  refine openS (n := 15) (fun x38 => ?_)
  refine openS (n := 14) (fun x39 => ?_)
  refine openS (n := 13) (fun x40 => ?_)
  refine openS (n := 12) (fun x41 => ?_)
  refine openS (n := 11) (fun x42 => ?_)
  refine openS (n := 10) (fun x43 => ?_)
  refine openS (n := 9) (fun x44 => ?_)
  refine openS (n := 8) (fun x45 => ?_)
  refine openS (n := 7) (fun x46 => ?_)
  refine openS (n := 6) (fun x47 => ?_)
  refine openS (n := 5) (fun x48 => ?_)
  refine openS (n := 4) (fun x49 => ?_)
  refine openS (n := 3) (fun x50 => ?_)
  refine openS (n := 2) (fun x51 => ?_)
  refine openS (n := 1) (fun x52 => ?_)
  refine openS (n := 0) (fun x53 => ?_)
  refine open0 ?_
  exact h x0 x1 x2 x3 x4 x5 x6 x7 x8 x9 x10 x11 x12 x13 x14 x15 x16 x17 x18 x19 x20 x21 x22 x23 x24 x25 x26 x27 x28 x29 x30 x31 x32 x33 x34 x35 x36 x37 x38 x39 x40 x41 x42 x43 x44 x45 x46 x47 x48 x49 x50 x51 x52 x53
/-- The words that were read, the reader's state. -/
structure WdS (m : Nat) (wo w : World) (r : Nat) (x : ByteArray) (i c j : Nat) (l : List ByteArray) (v : Value) : Prop where
  rd : RdG m w r x i c j
  own : strRep.Own 9 wo.heap.size w (fun b => wo.heap.size ≤ b ∧ b < w.heap.size) v l
  kp : Keeps (· = r) wo w
  ro : r < wo.heap.size
theorem infoStrW : (Tryd.prog.info? 9).map (fun i => (i.zero, i.size, i.bytes)) = some (some (.string ⟨#[]⟩), 1, 16) := by kernel_rfl
theorem RdG.below {m r i c j : Nat} {x : ByteArray} {w w' : World} (h : RdG m w r x i c j) (hb : Below w.heap.size w w') : RdG m w' r x i c j := (hb.block r (lt_heap h)).trans h
theorem WdS.below {m : Nat} {wo w w' : World} {r : Nat} {x : ByteArray} {i c j : Nat} {l : List ByteArray} {v : Value} (h : WdS m wo w r x i c j l v) (hb : Below w.heap.size w w') : WdS m wo w' r x i c j l v :=
  ⟨h.rd.below hb, h.own.keep (fun b hb2 => hb.block b hb2) (fun b hb2 => hb2.2) (fun b hb2 => ⟨hb2.1, Nat.lt_of_lt_of_le hb2.2 hb.size⟩), h.kp.trans (Below.keeps hb _), h.ro⟩
/-- A step that writes the reader alone. -/
theorem WdS.keeps {m : Nat} {wo w w' : World} {r : Nat} {x : ByteArray} {i c j i' c' j' : Nat} {l : List ByteArray} {v : Value} (h : WdS m wo w r x i c j l v) (hk : Keeps (· = r) w w') (hr : RdG m w' r x i' c' j') : WdS m wo w' r x i' c' j' l v := by
  have hro := h.ro
  refine ⟨hr, ?_, h.kp.trans hk, h.ro⟩
  have hlt : ∀ b, v.ownBlock = some b → wo.heap.size ≤ b ∧ b < w.heap.size := by obtain ⟨xs, h1, _⟩ := h.own; exact h1.lt
  exact h.own.keepS (fun b hb1 hb => hk.block b hb1 (fun e => by have := (hlt b hb).1; omega)) (fun b hb _ => hk.block b hb.2 (fun e => by have := hb.1; omega)) (fun b hb => ⟨hb.1, Nat.lt_of_lt_of_le hb.2 hk.size⟩)
noncomputable def c_wd_r2 : Code := sub [1, 1, 0, 0] (Tryd.f33.body.getD .skip)
set_option maxRecDepth 1000000 in
set_option maxHeartbeats 16000000 in
theorem wd_r2_wp {Q : Exit → Act → World → Prop} {x : ByteArray} {r i c j m : Nat} {v : Value} {w : World} (hr : RdG m w r x i c j) (hN : ∀ a' w', Frm 54 [(0, .pointer (some ⟨r, 0, none⟩)), (3, v), (8, .bool (decide (byteAt x i = 41)))] a' → Below w.heap.size w w' → w'.heap.size = w.heap.size → Q .normal a' w') : ∀ ac, Frm 54 [(0, .pointer (some ⟨r, 0, none⟩)), (3, v)] ac → Code.wp Tryd.prog c_wd_r2 Q ac w := by
  refine frm_open ?_
  refine frame_wd ?_
  intros
  rename_i hq
  obtain ⟨-, -, e0q, e1q, -⟩ := hq
  have e0q := (Option.some.inj e0q).symm; subst e0q
  have e1q := (Option.some.inj e1q).symm; subst e1q
  conv => arg 2; whnf
  have hpk : ∀ W, RdG m W r x i c j → Calls Tryd.prog 30 #[.pointer (some ⟨r, 0, none⟩)] W fun e w' => e = .returned (.int .u8 (byteAt x i)) ∧ Below W.heap.size W w' ∧ w'.heap.size = W.heap.size := fun W h => peekG_any r x i c j W h
  have HN := Lib.hid hN
  have HPK := Lib.hid hpk
  clear hN hpk
  have r1 := cellv hr 1 rfl
  have r2 := cellv hr 2 rfl
  have d1 := free_heap hr 1
  have rl := lt_heap hr
  have HRD := Lib.hid hr
  clear hr
  by_cases hc : byteAt x i = 41
  · have q2 : (((byteAt x i : Nat) : Int) == 41) = true := by rw [hc]; rfl
    rw [show decide (byteAt x i = 41) = true from decide_eq_true hc] at HN
    clear hc
    go_wp2_with fail
    (with_reducible refine (HPK.out _ HRD.out).mono ?_)
    rintro e w1 ⟨rfl, hb1, hs1⟩
    have HB1 := Lib.hid hb1
    have HS1 := Lib.hid hs1
    clear hb1 hs1
    go_wp2_with fail
    exact HN.out _ _ (id ⟨rfl, rfl, rfl, rfl, rfl, trivial⟩) HB1.out HS1.out
  · have q2 : (((byteAt x i : Nat) : Int) == 41) = false := beq_eq_false_iff_ne.2 (by omega)
    rw [show decide (byteAt x i = 41) = false from decide_eq_false hc] at HN
    clear hc
    go_wp2_with fail
    (with_reducible refine (HPK.out _ HRD.out).mono ?_)
    rintro e w1 ⟨rfl, hb1, hs1⟩
    have HB1 := Lib.hid hb1
    have HS1 := Lib.hid hs1
    clear hb1 hs1
    go_wp2_with fail
    exact HN.out _ _ (id ⟨rfl, rfl, rfl, rfl, rfl, trivial⟩) HB1.out HS1.out
noncomputable def c_wd_r3 : Code := sub [1, 1, 0, 1, 0, 0] (Tryd.f33.body.getD .skip)
set_option maxRecDepth 1000000 in
set_option maxHeartbeats 16000000 in
theorem wd_r3_wp {Q : Exit → Act → World → Prop} {x : ByteArray} {r i c j m : Nat} {v : Value} {w : World} (hi : i ≤ 5000) (hr : RdG m w r x i c j) (hN : ∀ a' w', Frm 54 [(0, .pointer (some ⟨r, 0, none⟩)), (3, v)] a' → RdG m w' r x (i + 1) c j → Keeps (· = r) w w' → w'.heap.size = w.heap.size → Q .normal a' w') : ∀ ac, Frm 54 [(0, .pointer (some ⟨r, 0, none⟩)), (3, v)] ac → Code.wp Tryd.prog c_wd_r3 Q ac w := by
  refine frm_open ?_
  refine frame_wd ?_
  intros
  rename_i hq
  obtain ⟨-, -, e0q, e1q, -⟩ := hq
  have e0q := (Option.some.inj e0q).symm; subst e0q
  have e1q := (Option.some.inj e1q).symm; subst e1q
  conv => arg 2; whnf
  have HN := Lib.hid hN
  clear hN
  have r1 := cellv hr 1 rfl
  have r2 := cellv hr 2 rfl
  have d1 := free_heap hr 1
  have rl := lt_heap hr
  have HRD := Lib.hid hr
  clear hr
  have ha4 : (i : Int) ≤ 5000 := by omega
  go_wp2_with fail
  refine HN.out _ _ (id ⟨rfl, rfl, rfl, rfl, trivial⟩) ?_ ?_ (by simp only [size_set])
  · exact show RdG m (w.setCell ⟨r, 1, none⟩ (.int .i64 ((i : Int) + 1))) r x (i + 1) c j by simpa [RdG] using heap_set HRD.out 1 (.int .i64 ((i : Int) + 1))
  · exact (Keeps.refl (· = r) w).set (b := r) (Or.inl rfl) 1 _
noncomputable def c_wd_r8 : Code := sub [1, 1, 1, 0, 0, 0, 1, 0, 1, 0, 1, 0, 0] (Tryd.f33.body.getD .skip)
set_option maxRecDepth 1000000 in
set_option maxHeartbeats 16000000 in
theorem wd_r8_wp {Q : Exit → Act → World → Prop} {x : ByteArray} {r i c j m : Nat} {v : Value} {w : World} (hi : i ≤ 5000) (hr : RdG m w r x i c j) (hN : ∀ a' w', Frm 54 [(0, .pointer (some ⟨r, 0, none⟩)), (3, v)] a' → RdG m w' r x (i + 1) c j → Keeps (· = r) w w' → w'.heap.size = w.heap.size → Q .normal a' w') : ∀ ac, Frm 54 [(0, .pointer (some ⟨r, 0, none⟩)), (3, v)] ac → Code.wp Tryd.prog c_wd_r8 Q ac w := by
  refine frm_open ?_
  refine frame_wd ?_
  intros
  rename_i hq
  obtain ⟨-, -, e0q, e1q, -⟩ := hq
  have e0q := (Option.some.inj e0q).symm; subst e0q
  have e1q := (Option.some.inj e1q).symm; subst e1q
  conv => arg 2; whnf
  have HN := Lib.hid hN
  clear hN
  have r1 := cellv hr 1 rfl
  have r2 := cellv hr 2 rfl
  have d1 := free_heap hr 1
  have rl := lt_heap hr
  have HRD := Lib.hid hr
  clear hr
  have ha4 : (i : Int) ≤ 5000 := by omega
  go_wp2_with fail
  refine HN.out _ _ (id ⟨rfl, rfl, rfl, rfl, trivial⟩) ?_ ?_ (by simp only [size_set])
  · exact show RdG m (w.setCell ⟨r, 1, none⟩ (.int .i64 ((i : Int) + 1))) r x (i + 1) c j by simpa [RdG] using heap_set HRD.out 1 (.int .i64 ((i : Int) + 1))
  · exact (Keeps.refl (· = r) w).set (b := r) (Or.inl rfl) 1 _
noncomputable def c_wd_r5 : Code := sub [1, 1, 1, 0, 0, 0, 0, 0] (Tryd.f33.body.getD .skip)
set_option maxRecDepth 1000000 in
set_option maxHeartbeats 16000000 in
theorem wd_r5_wp {Q : Exit → Act → World → Prop} {x : ByteArray} {r i c j m : Nat} {v : Value} {w : World} (hr : RdG m w r x i c j) (hN : ∀ a', Frm 54 [(0, .pointer (some ⟨r, 0, none⟩)), (3, v), (24, .bool (decide (c = 0)))] a' → Q .normal a' w) : ∀ ac, Frm 54 [(0, .pointer (some ⟨r, 0, none⟩)), (3, v)] ac → Code.wp Tryd.prog c_wd_r5 Q ac w := by
  refine frm_open ?_
  refine frame_wd ?_
  intros
  rename_i hq
  obtain ⟨-, -, e0q, e1q, -⟩ := hq
  have e0q := (Option.some.inj e0q).symm; subst e0q
  have e1q := (Option.some.inj e1q).symm; subst e1q
  conv => arg 2; whnf
  have HN := Lib.hid hN
  clear hN
  have r1 := cellv hr 1 rfl
  have r2 := cellv hr 2 rfl
  have d1 := free_heap hr 1
  have rl := lt_heap hr
  have HRD := Lib.hid hr
  clear hr
  by_cases h : c = 0
  · have q1 : ((c : Int) == 0) = true := by rw [beq_iff_eq]; omega
    rw [show decide (c = 0) = true from decide_eq_true h] at HN
    clear h
    go_wp2_with fail
    exact HN.out _ (id ⟨rfl, rfl, rfl, rfl, rfl, trivial⟩)
  · have q1 : ((c : Int) == 0) = false := beq_eq_false_iff_ne.2 (by omega)
    rw [show decide (c = 0) = false from decide_eq_false h] at HN
    clear h
    go_wp2_with fail
    exact HN.out _ (id ⟨rfl, rfl, rfl, rfl, rfl, trivial⟩)
noncomputable def c_wd_r6 : Code := sub [1, 1, 1, 0, 0, 0, 1, 0, 0] (Tryd.f33.body.getD .skip)
set_option maxRecDepth 1000000 in
set_option maxHeartbeats 16000000 in
theorem wd_r6_wp {Q : Exit → Act → World → Prop} {x : ByteArray} {r i c j m : Nat} {v : Value} {w : World} {l : List ByteArray} {wo : World} (hx : x.size ≤ 4000) (hi : i ≤ x.size) (hl4 : l.length ≤ 4) (hp : WdS m wo w r x i 0 j l v) (hN : ∀ v' a' w', Frm 54 [(0, .pointer (some ⟨r, 0, none⟩)), (3, v')] a' → (nameE x i = i → WdS m wo w' r x i 11 i (l ++ [x.extract i (nameE x i)]) v') → (nameE x i ≠ i → WdS m wo w' r x (nameE x i) 0 j (l ++ [x.extract i (nameE x i)]) v') → Q .normal a' w') : ∀ ac, Frm 54 [(0, .pointer (some ⟨r, 0, none⟩)), (3, v)] ac → Code.wp Tryd.prog c_wd_r6 Q ac w := by
  refine frm_open ?_
  refine frame_wd ?_
  intros
  rename_i hq
  obtain ⟨-, -, e0q, e1q, -⟩ := hq
  have e0q := (Option.some.inj e0q).symm; subst e0q
  have e1q := (Option.some.inj e1q).symm; subst e1q
  conv => arg 2; whnf
  have hro := hp.ro
  have hsz := hp.kp.size
  have hnm := fun (W : World) (h : RdG m W r x i 0 j) => nameR_any x r i j m W hx hi h
  obtain ⟨ts, hts, ht0, ht1, ht2⟩ := info_parts infoStrW
  have HP := Lib.hid hp
  clear hp
  have HN := Lib.hid hN
  have HNM := Lib.hid hnm
  clear hN hnm
  have rl := lt_heap HP.out.rd
  obtain ⟨a2, ha⟩ : ∃ a2, x.extract i (nameE x i) = a2 := ⟨_, rfl⟩
  have ha2 : a2.size ≤ maxLen := by rw [← ha]; exact ext_le2 x i _ hx
  obtain ⟨Av, cv, rfl⟩ := HP.out.own.len
  rw [ha] at HN
  go_wp2_with fail
  (with_reducible refine (HNM.out _ HP.out.rd).mono ?_)
  rintro e w1 ⟨rfl, hn1, hn2, hk1, hs1⟩
  clear hs1
  rw [ha]
  obtain ⟨i', c', hrd1, hsel1, hsel2⟩ : ∃ i' c', RdG m w1 r x i' c' (if nameE x i = i then i else j) ∧ (nameE x i = i → i' = i ∧ c' = 11) ∧ (nameE x i ≠ i → i' = nameE x i ∧ c' = 0) := by
    by_cases hne : nameE x i = i
    · exact ⟨i, 11, by rw [if_pos hne]; exact hn1 hne, fun _ => ⟨rfl, rfl⟩, fun h => absurd hne h⟩
    · exact ⟨nameE x i, 0, by rw [if_neg hne]; exact hn2 hne, fun h => absurd h hne, fun _ => ⟨rfl, rfl⟩⟩
  have hp1 := HP.out.keeps hk1 hrd1
  obtain ⟨xs, hvo, hall⟩ := hp1.own
  have hvl : ∀ b, (Value.slice Av l.length cv).ownBlock = some b → wo.heap.size ≤ b ∧ b < w1.heap.size := hvo.lt
  have hle := hp1.kp.size
  have rl1 : r < w1.heap.size := lt_heap hrd1
  have HP1 := Lib.hid hp1
  clear hp1 hn1 hn2 hk1 hrd1
  have HVO := Lib.hid hvo
  have HALL := Lib.hid hall
  have HVL := Lib.hid hvl
  have HSEL1 := Lib.hid hsel1
  have HSEL2 := Lib.hid hsel2
  clear hvo hall hvl hsel1 hsel2
  go_wp2_with (at_builtin; refine wpList_append_lies (w1.alloc (.cells #[.string a2] 9)) ?h1 (.tmp 25) (.tmp 28) 31 ?h2 wo.heap.size 9 ts (.string ⟨#[]⟩) 1 16 ?h3 hts ht0 ht1 ht2 ?h4 ?h5 (.slice Av l.length cv) l.length xs ?h6 ?h7 ⟨w1.heap.size, 0, none⟩ 1 1 [.string a2] ?h8 ?h9 ?h10 ?h11 ?h12 ?h13 ?h14 ?h15 (w1.heap.size + 1) ?h16 ?_)
  try (case h1 => rfl)
  try (case h2 => rfl)
  try (case h3 => exact Tryd.underlying31)
  try (case h4 => rfl)
  try (case h5 => omega)
  try (case h6 => rfl)
  try (case h7 => exact HVO.out.alloc _)
  try (case h8 => rfl)
  try (case h9 => rfl)
  try (case h10 => exact World.news_of_block (cs := #[.string a2]) (t := 9) (fr := (0, 0)) (heap_alloc_new w1 _))
  try (case h11 => simp [Value.oneCell'])
  try (case h12 => omega)
  try (case h13 => first | (simp [maxLen]; omega) | (unfold maxLen; omega))
  try (case h14 => omega)
  try (case h15 => first | omega | (simp; omega))
  try (case h16 => first | rfl | simp)
  intro gg cap w6 hown3 hgrow hat hlt
  have z6 : w1.heap.size + 1 ≤ w6.heap.size := by have := hgrow.size; simpa using this
  have hkeep : ∀ b, b < w1.heap.size → (Value.slice Av l.length cv).ownBlock ≠ some b → w6.heap[b]? = w1.heap[b]? := fun b hb hne => (hgrow.block b (by simp; omega) (fun e => hne e.symm)).trans (heap_old hb rfl)
  have hfar : ∀ b, b < wo.heap.size → w6.heap[b]? = w1.heap[b]? := fun b hb => hkeep b (by omega) (fun e => by have := (HVL.out b e).1; omega)
  have hgg : wo.heap.size ≤ gg := by
    rcases hat with h | h
    · exact (HVL.out gg h).1
    · omega
  have hb6 : Below wo.heap.size w1 w6 := ⟨hgrow.os, hgrow.tape, hgrow.output, by omega, hfar⟩
  have hfin : WdS m wo w6 r x i' c' (if nameE x i = i then i else j) (l ++ [a2]) (.slice (some ⟨gg, 0, none⟩) (l.length + 1) cap) := by
    refine ⟨(hfar r hro).trans HP1.out.rd, ⟨xs ++ [.string a2], ?_, ?_⟩, ⟨hb6.os.trans HP1.out.kp.os, hb6.tape.trans HP1.out.kp.tape, hb6.output.trans HP1.out.kp.output, by omega, fun k h1 h2 => (hfar k h1).trans (HP1.out.kp.block k h1 h2)⟩, hro⟩
    · rw [List.length_append]
      exact hown3
    · exact Rep.All.append (HALL.out.keep (S' := fun b => (wo.heap.size ≤ b ∧ b < w6.heap.size) ∧ (Value.slice (some ⟨gg, 0, none⟩) (l.length + 1) cap).ownBlock ≠ some b) (fun b hb => hkeep b hb.1.2 hb.2) (fun b hb => ⟨⟨hb.1.1, by have := hb.1.2; omega⟩, fun e => by
        have e2 : gg = b := Option.some.inj e
        rcases hat with h | h
        · exact hb.2 (by rw [h, e2])
        · have := hb.1.2; omega⟩)) (Rep.All.single ⟨rfl, ha2⟩)
  have HF := Lib.hid hfin
  clear hown3 hgrow hat hkeep hfar hb6 hfin
  go_wp2_with fail
  refine HN.out (.slice (some ⟨gg, 0, none⟩) (l.length + 1) cap) _ _ (id ⟨rfl, rfl, rfl, rfl, trivial⟩) (fun h => ?_) (fun h => ?_)
  · have := HF.out
    rwa [(HSEL1.out h).1, (HSEL1.out h).2, if_pos h] at this
  · have := HF.out
    rwa [(HSEL2.out h).1, (HSEL2.out h).2, if_neg h] at this
noncomputable def c_wd_r9 : Code := sub [1, 1, 1, 0, 0, 0, 1, 0, 1, 1, 0] (Tryd.f33.body.getD .skip)
set_option maxRecDepth 1000000 in
set_option maxHeartbeats 16000000 in
theorem wd_r9_wp {Q : Exit → Act → World → Prop} {x : ByteArray} {r i c j m : Nat} {v : Value} {w : World} (hx : x.size ≤ 4000) (hr : RdG m w r x i c j) (hN : ∀ a' w', Frm 54 [(0, .pointer (some ⟨r, 0, none⟩)), (3, v)] a' → TakeG m w' r x i c j 41 → Keeps (· = r) w w' → w'.heap.size = w.heap.size → Q .normal a' w') : ∀ ac, Frm 54 [(0, .pointer (some ⟨r, 0, none⟩)), (3, v)] ac → Code.wp Tryd.prog c_wd_r9 Q ac w := by
  refine frm_open ?_
  refine frame_wd ?_
  intros
  rename_i hq
  obtain ⟨-, -, e0q, e1q, -⟩ := hq
  have e0q := (Option.some.inj e0q).symm; subst e0q
  have e1q := (Option.some.inj e1q).symm; subst e1q
  conv => arg 2; whnf
  have htk : ∀ (W : World), RdG m W r x i c j → Calls Tryd.prog 34 #[.pointer (some ⟨r, 0, none⟩), .int .u8 41] W fun e w' => IsBool e ∧ TakeG m w' r x i c j 41 ∧ Keeps (· = r) W w' ∧ w'.heap.size = W.heap.size := fun W h => takeG_any r x i c j 41 W h (by decide) hx
  have HN := Lib.hid hN
  have HTK := Lib.hid htk
  clear hN htk
  have r1 := cellv hr 1 rfl
  have r2 := cellv hr 2 rfl
  have d1 := free_heap hr 1
  have rl := lt_heap hr
  have HRD := Lib.hid hr
  clear hr
  go_wp2_with fail
  (with_reducible refine (HTK.out _ HRD.out).mono ?_)
  rintro e w1 ⟨⟨bb, rfl⟩, hb1, hk1, hs1⟩
  have HB1 := Lib.hid hb1
  have HS1 := Lib.hid hs1
  have HK1 := Lib.hid hk1
  clear hb1 hs1 hk1
  go_wp2_with fail
  exact HN.out _ _ (id ⟨rfl, rfl, rfl, rfl, trivial⟩) HB1.out HK1.out HS1.out
noncomputable def c_wd_r7 : Code := sub [1, 1, 1, 0, 0, 0, 1, 0, 1, 0, 0] (Tryd.f33.body.getD .skip)
set_option maxRecDepth 1000000 in
set_option maxHeartbeats 16000000 in
theorem wd_r7_wp {Q : Exit → Act → World → Prop} {x : ByteArray} {r i c j m : Nat} {A : Option Addr} {n cv : Nat} {w : World} (hn : n ≤ 4) (hr : RdG m w r x i c j) (hN : ∀ a' w', Frm 54 [(0, .pointer (some ⟨r, 0, none⟩)), (3, .slice A n cv), (39, .bool (decide (n < 3 ∧ byteAt x i = 44)))] a' → Below w.heap.size w w' → w'.heap.size = w.heap.size → Q .normal a' w') : ∀ ac, Frm 54 [(0, .pointer (some ⟨r, 0, none⟩)), (3, .slice A n cv)] ac → Code.wp Tryd.prog c_wd_r7 Q ac w := by
  refine frm_open ?_
  refine frame_wd ?_
  intros
  rename_i hq
  obtain ⟨-, -, e0q, e1q, -⟩ := hq
  have e0q := (Option.some.inj e0q).symm; subst e0q
  have e1q := (Option.some.inj e1q).symm; subst e1q
  conv => arg 2; whnf
  have hpk : ∀ W, RdG m W r x i c j → Calls Tryd.prog 30 #[.pointer (some ⟨r, 0, none⟩)] W fun e w' => e = .returned (.int .u8 (byteAt x i)) ∧ Below W.heap.size W w' ∧ w'.heap.size = W.heap.size := fun W h => peekG_any r x i c j W h
  have HN := Lib.hid hN
  have HPK := Lib.hid hpk
  clear hN hpk
  have r1 := cellv hr 1 rfl
  have r2 := cellv hr 2 rfl
  have d1 := free_heap hr 1
  have rl := lt_heap hr
  have HRD := Lib.hid hr
  clear hr
  have n0 : (n : Int) ≤ 4 := by omega
  by_cases hlt : n < 3
  case neg =>
    have q1 : decide ((n : Int) < 3) = false := decide_eq_false (by omega)
    rw [show decide (n < 3 ∧ byteAt x i = 44) = false from decide_eq_false (fun h => hlt h.1)] at HN
    clear hlt
    go_wp2_with fail
    exact HN.out _ _ (id ⟨rfl, rfl, rfl, rfl, rfl, trivial⟩) (by first | exact Below.refl _ _ | exact ⟨rfl, rfl, rfl, Nat.le_refl _, fun _ _ => rfl⟩) rfl
  have q1 : decide ((n : Int) < 3) = true := decide_eq_true (by omega)
  by_cases hc : byteAt x i = 44
  · have q2 : (((byteAt x i : Nat) : Int) == 44) = true := by rw [hc]; rfl
    rw [show decide (n < 3 ∧ byteAt x i = 44) = true from decide_eq_true ⟨hlt, hc⟩] at HN
    clear hc hlt
    go_wp2_with fail
    (with_reducible refine (HPK.out _ HRD.out).mono ?_)
    rintro e w1 ⟨rfl, hb1, hs1⟩
    have HB1 := Lib.hid hb1
    have HS1 := Lib.hid hs1
    clear hb1 hs1
    go_wp2_with fail
    exact HN.out _ _ (id ⟨rfl, rfl, rfl, rfl, rfl, trivial⟩) HB1.out HS1.out
  · have q2 : (((byteAt x i : Nat) : Int) == 44) = false := beq_eq_false_iff_ne.2 (by omega)
    rw [show decide (n < 3 ∧ byteAt x i = 44) = false from decide_eq_false (fun h => hc h.2)] at HN
    clear hc hlt
    go_wp2_with fail
    (with_reducible refine (HPK.out _ HRD.out).mono ?_)
    rintro e w1 ⟨rfl, hb1, hs1⟩
    have HB1 := Lib.hid hb1
    have HS1 := Lib.hid hs1
    clear hb1 hs1
    go_wp2_with fail
    exact HN.out _ _ (id ⟨rfl, rfl, rfl, rfl, rfl, trivial⟩) HB1.out HS1.out
noncomputable def c_wd_r10 : Code := sub [1, 1, 1, 1, 0] (Tryd.f33.body.getD .skip)
set_option maxRecDepth 1000000 in
set_option maxHeartbeats 16000000 in
theorem wd_r10_wp {Q : Exit → Act → World → Prop} {v : Value} {r : Nat} {w : World} (hN : ∀ a', Frm 54 [(2, v)] a' → Q .normal a' w) : ∀ ac, Frm 54 [(0, .pointer (some ⟨r, 0, none⟩)), (3, v)] ac → Code.wp Tryd.prog c_wd_r10 Q ac w := by
  refine frm_open ?_
  refine frame_wd ?_
  intros
  rename_i hq
  obtain ⟨-, -, e0q, e1q, -⟩ := hq
  have e0q := (Option.some.inj e0q).symm; subst e0q
  have e1q := (Option.some.inj e1q).symm; subst e1q
  conv => arg 2; whnf
  have HN := Lib.hid hN
  clear hN
  go_wp2_with fail
  exact HN.out _ (id ⟨rfl, rfl, rfl, trivial⟩)
noncomputable def c_wd_r4 : Code := sub [1, 1, 0, 1, 0, 1, 0] (Tryd.f33.body.getD .skip)
set_option maxRecDepth 1000000 in
set_option maxHeartbeats 16000000 in
theorem wd_r4_wp {Q : Exit → Act → World → Prop} {v : Value} {r : Nat} {w : World} (hN : ∀ a', Frm 54 [(2, .slice none 0 0)] a' → Q .normal a' w) : ∀ ac, Frm 54 [(0, .pointer (some ⟨r, 0, none⟩)), (3, v)] ac → Code.wp Tryd.prog c_wd_r4 Q ac w := by
  refine frm_open ?_
  refine frame_wd ?_
  intros
  rename_i hq
  obtain ⟨-, -, e0q, e1q, -⟩ := hq
  have e0q := (Option.some.inj e0q).symm; subst e0q
  have e1q := (Option.some.inj e1q).symm; subst e1q
  conv => arg 2; whnf
  have HN := Lib.hid hN
  clear hN
  go_wp2_with fail
  exact HN.out _ (id ⟨rfl, rfl, rfl, trivial⟩)
theorem then_exit {next : Act → World → Prop} {Q : Exit → Act → World → Prop} {k : Nat} {a : Act} {w : World} (h : Q (.exit k) a w) : Exit.then next Q (.exit k) a w := h
/-- How the words end. -/
def WEnd (x : ByteArray) (j i' c' j' : Nat) (l : List ByteArray) : Wrd → Prop
  | .ok l2 k => l = l2 ∧ i' = k ∧ c' = 0 ∧ j' = j ∧ k ≤ x.size
  | .bad k => i' ≤ x.size + 1 ∧ c' = 11 ∧ j' = k
noncomputable def c_wd_loop : Code := sub [1, 1, 1, 0, 0] (Tryd.f33.body.getD .skip)
set_option maxRecDepth 100000 in
theorem wd_loop_wp {Q : Exit → Act → World → Prop} {x : ByteArray} {r i j m : Nat} {v : Value} {wo wi : World} (hx : x.size ≤ 4000) (hi : i ≤ x.size) (hp : WdS m wo wi r x i 0 j [] v)
    (hX : ∀ l i' c' j' v' a' w', Frm 54 [(0, .pointer (some ⟨r, 0, none⟩)), (3, v')] a' → WdS m wo w' r x i' c' j' l v' → l.length ≤ 4 → WEnd x j i' c' j' l (wordsG x 3 [] i) → Q (.exit 0) a' w') : ∀ ac, Frm 54 [(0, .pointer (some ⟨r, 0, none⟩)), (3, v)] ac → Code.wp Tryd.prog c_wd_loop Q ac wi := by
  intro a0 hf0
  conv => arg 2; whnf
  refine wp_loopR (fun g a' w' => ∃ v2, Frm 54 [(0, .pointer (some ⟨r, 0, none⟩)), (3, v2)] a' ∧ ((∃ l i2, l.length + g = 3 ∧ l.length ≤ 2 ∧ i2 ≤ x.size ∧ WdS m wo w' r x i2 0 j l v2 ∧ wordsG x g l i2 = wordsG x 3 [] i) ∨ (∃ l i2 k, l.length ≤ 4 ∧ i2 ≤ x.size + 1 ∧ WdS m wo w' r x i2 11 k l v2 ∧ wordsG x 3 [] i = .bad k))) 3 ⟨v, hf0, Or.inl ⟨[], i, rfl, by simp, hi, hp, rfl⟩⟩ ?_
  rintro g a1 w1 ⟨v2, hfr, h⟩
  rcases h with ⟨l, i2, hg, hlg, hix, hp2, hrun⟩ | ⟨l, i2, k, hl4, hix, hp2, hrun⟩
  case inr =>
    refine wp_seq ?_
    refine wp_seq ?_
    refine wd_r5_wp hp2.rd (fun a2 h2 => ?_) a1 hfr
    refine wp_cond_false ((h2.eval (k := 24) (v := .bool (decide (11 = 0))) (by simp)).trans (by rw [decide_eq_false (by omega)])) ?_
    refine wp_exit (hX l i2 11 k v2 a2 w1 ⟨h2.1, h2.2.1, h2.2.2.1, h2.2.2.2.1, trivial⟩ hp2 hl4 ?_)
    rw [hrun]
    exact ⟨hix, rfl, rfl⟩
  refine wp_seq ?_
  refine wp_seq ?_
  refine wd_r5_wp hp2.rd (fun a2 h2 => ?_) a1 hfr
  refine wp_cond_true ((h2.eval (k := 24) (v := .bool (decide ((0 : Nat) = 0))) (by simp)).trans (by rw [decide_eq_true rfl])) ?_
  refine wp_skip ?_
  show Code.wp _ _ _ a2 w1
  refine wp_block ?_
  refine wp_seq ?_
  have he1 := nameE_ge x i2
  have he2 := nameE_top hix
  obtain ⟨f, rfl⟩ : ∃ f, g = f + 1 := ⟨g - 1, by omega⟩
  refine wd_r6_wp (c := 0) hx hix (by omega) hp2 (fun v3 a3 w3 h3 hpa hpb => ?_) a2 ⟨h2.1, h2.2.1, h2.2.2.1, h2.2.2.2.1, trivial⟩
  refine wp_seq ?_
  refine wp_seq ?_
  by_cases he : nameE x i2 = i2
  · have hp3 := hpa he
    have hbad : wordsG x 3 [] i = .bad i2 := by rw [← hrun]; simp only [wordsG]; rw [if_pos he]
    obtain ⟨Av, cv, rfl⟩ := hp3.own.len
    refine wd_r7_wp (n := (l ++ [x.extract i2 (nameE x i2)]).length) (by simp; omega) hp3.rd (fun a4 w4 h4 hb4 hs4 => ?_) a3 h3
    have hp4 := hp3.below hb4
    by_cases hc : (l ++ [x.extract i2 (nameE x i2)]).length < 3 ∧ byteAt x i2 = 44
    · refine wp_cond_true ((h4.eval (k := 39) (v := .bool (decide ((l ++ [x.extract i2 (nameE x i2)]).length < 3 ∧ byteAt x i2 = 44))) (by simp)).trans (by rw [decide_eq_true hc])) ?_
      refine wp_seq ?_
      refine wd_r8_wp (by omega) hp4.rd (fun a5 w5 h5 hr5 hk5 hs5 => ?_) a4 ⟨h4.1, h4.2.1, h4.2.2.1, h4.2.2.2.1, trivial⟩
      refine wp_exit ?_
      refine then_exit ?_
      refine inBlock_exit ?_
      exact ⟨f, Nat.lt_succ_self _, _, h5, Or.inr ⟨_, i2 + 1, i2, by simp; omega, by omega, hp4.keeps hk5 hr5, hbad⟩⟩
    · refine wp_cond_false ((h4.eval (k := 39) (v := .bool (decide ((l ++ [x.extract i2 (nameE x i2)]).length < 3 ∧ byteAt x i2 = 44))) (by simp)).trans (by rw [decide_eq_false hc])) ?_
      refine wp_skip ?_
      show Code.wp _ _ _ a4 w4
      refine wp_seq ?_
      refine wd_r9_wp hx hp4.rd (fun a5 w5 h5 hr5 hk5 hs5 => ?_) a4 ⟨h4.1, h4.2.1, h4.2.2.1, h4.2.2.2.1, trivial⟩
      unfold TakeG at hr5
      rw [if_neg (by omega)] at hr5
      refine wp_exit (inBlock_far (by decide) (hX _ i2 11 i2 _ a5 w5 h5 (hp4.keeps hk5 hr5) (by simp; omega) ?_))
      rw [hbad]
      exact ⟨by omega, rfl, rfl⟩
  · have hp3 := hpb he
    obtain ⟨Av, cv, rfl⟩ := hp3.own.len
    refine wd_r7_wp (n := (l ++ [x.extract i2 (nameE x i2)]).length) (by simp; omega) hp3.rd (fun a4 w4 h4 hb4 hs4 => ?_) a3 h3
    have hp4 := hp3.below hb4
    by_cases hc : (l ++ [x.extract i2 (nameE x i2)]).length < 3 ∧ byteAt x (nameE x i2) = 44
    · refine wp_cond_true ((h4.eval (k := 39) (v := .bool (decide ((l ++ [x.extract i2 (nameE x i2)]).length < 3 ∧ byteAt x (nameE x i2) = 44))) (by simp)).trans (by rw [decide_eq_true hc])) ?_
      refine wp_seq ?_
      refine wd_r8_wp (by omega) hp4.rd (fun a5 w5 h5 hr5 hk5 hs5 => ?_) a4 ⟨h4.1, h4.2.1, h4.2.2.1, h4.2.2.2.1, trivial⟩
      refine wp_exit ?_
      refine then_exit ?_
      refine inBlock_exit ?_
      have hlt2 := byteAt_lt (x := x) (i := nameE x i2) (by rw [hc.2]; omega)
      have hl2 : l.length < 2 := by have := hc.1; simp at this; omega
      refine ⟨f, Nat.lt_succ_self _, _, h5, Or.inl ⟨_, nameE x i2 + 1, by simp; omega, by simp; omega, by omega, hp4.keeps hk5 hr5, ?_⟩⟩
      rw [← hrun]
      simp only [wordsG]
      rw [if_neg he, if_neg (by rw [hc.2]; omega), if_pos ⟨hc.2, hl2⟩]
    · refine wp_cond_false ((h4.eval (k := 39) (v := .bool (decide ((l ++ [x.extract i2 (nameE x i2)]).length < 3 ∧ byteAt x (nameE x i2) = 44))) (by simp)).trans (by rw [decide_eq_false hc])) ?_
      refine wp_skip ?_
      show Code.wp _ _ _ a4 w4
      refine wp_seq ?_
      refine wd_r9_wp hx hp4.rd (fun a5 w5 h5 hr5 hk5 hs5 => ?_) a4 ⟨h4.1, h4.2.1, h4.2.2.1, h4.2.2.2.1, trivial⟩
      unfold TakeG at hr5
      rw [if_pos rfl] at hr5
      by_cases h41 : byteAt x (nameE x i2) = 41
      · rw [if_pos h41] at hr5
        have hlt2 := byteAt_lt (x := x) (i := nameE x i2) (by rw [h41]; omega)
        refine wp_exit (inBlock_far (by decide) (hX _ _ 0 j _ a5 w5 h5 (hp4.keeps hk5 hr5) (by simp; omega) ?_))
        rw [← hrun]
        simp only [wordsG]
        rw [if_neg he, if_pos h41]
        exact ⟨rfl, rfl, rfl, rfl, by omega⟩
      · rw [if_neg h41] at hr5
        refine wp_exit (inBlock_far (by decide) (hX _ _ 11 _ _ a5 w5 h5 (hp4.keeps hk5 hr5) (by simp; omega) ?_))
        rw [← hrun]
        simp only [wordsG]
        rw [if_neg he, if_neg h41, if_neg (fun h => hc ⟨by simp; omega, h.1⟩)]
        exact ⟨by omega, rfl, rfl⟩
set_option maxRecDepth 1000000 in
theorem wd_ret_wp {R : Ending → World → Prop} {w' : World} {A : Option Addr} {n cv : Nat} (hR : R (.returned (.slice A n cv)) w') : ∀ ac, Frm 54 [(2, .slice A n cv)] ac → bodyPost Tryd.prog Tryd.f33 R .ret ac w' := by
  refine frm_open ?_
  refine frame_wd ?_
  intros
  rename_i hq
  obtain ⟨-, -, e0q, -⟩ := hq
  have e0q := (Option.some.inj e0q).symm; subst e0q
  refine bodyPost_ret (v := .slice A n cv) (by simp [results, Tryd.results33, go_sem]) rfl ?_
  exact hR
noncomputable def c_wd_tail : Code := sub [1, 1, 1, 1] (Tryd.f33.body.getD .skip)
set_option maxRecDepth 1000000 in
set_option maxHeartbeats 16000000 in
theorem wd_tail_wp {Q : Exit → Act → World → Prop} {v : Value} {r : Nat} {w : World} (hR : ∀ a', Frm 54 [(2, v)] a' → Q .ret a' w) : ∀ ac, Frm 54 [(0, .pointer (some ⟨r, 0, none⟩)), (3, v)] ac → Code.wp Tryd.prog c_wd_tail Q ac w := by
  refine frm_open ?_
  refine frame_wd ?_
  intros
  rename_i hq
  obtain ⟨-, -, e0q, e1q, -⟩ := hq
  have e0q := (Option.some.inj e0q).symm; subst e0q
  have e1q := (Option.some.inj e1q).symm; subst e1q
  conv => arg 2; whnf
  have HR := Lib.hid hR
  clear hR
  go_wp2_with fail
  exact HR.out _ (id ⟨rfl, rfl, rfl, trivial⟩)
/-- What words leaves. -/
def WordsG (x : ByteArray) (r i j m : Nat) (w : World) (e : Ending) (w' : World) : Prop :=
  ∃ l i' c' j' v, e = .returned v ∧ WdS m w w' r x i' c' j' l v ∧ l.length ≤ 4 ∧ WEnd x j i' c' j' l (wordsF x i)
set_option maxRecDepth 100000 in
set_option maxHeartbeats 4000000 in
theorem wordsR_any (x : ByteArray) (r i j m : Nat) (w : World) (hx : x.size ≤ 4000) (hi : i ≤ x.size) (hr : RdG m w r x i 0 j) : Calls Tryd.prog 33 #[.pointer (some ⟨r, 0, none⟩)] w (WordsG x r i j m w) := by
  have hpk : ∀ W, RdG m W r x i 0 j → Calls Tryd.prog 30 #[.pointer (some ⟨r, 0, none⟩)] W fun e w' => e = .returned (.int .u8 (byteAt x i)) ∧ Below W.heap.size W w' ∧ w'.heap.size = W.heap.size := fun W h => peekG_any r x i 0 j W h
  have ro := lt_heap hr
  have hwf : wordsF x i = if byteAt x i = 41 then .ok [] (i + 1) else wordsG x 3 [] i := rfl
  have HRD := Lib.hid hr
  clear hr
  have HPK := Lib.hid hpk
  have HWF := Lib.hid hwf
  clear hpk hwf
  go_enter Tryd.func33, Tryd.ntmps33
  go_wp2_with fail
  (with_reducible refine (HPK.out _ HRD.out).mono ?_)
  rintro e w1 ⟨rfl, hb1, hs1⟩
  have hp1 : WdS m w w1 r x i 0 j [] (.slice none 0 0) := ⟨HRD.out.below hb1, Rep.Own.nil, Below.keeps hb1 _, ro⟩
  clear hb1 hs1
  have HP1 := Lib.hid hp1
  clear hp1
  by_cases hc : byteAt x i = 41
  · have hlt2 := byteAt_lt (x := x) (i := i) (by rw [hc]; omega)
    have q2 : (((byteAt x i : Nat) : Int) == 41) = true := by rw [hc]; rfl
    have hE := HWF.out
    rw [if_pos hc] at hE
    have HE := Lib.hid hE
    have hr := HP1.out.rd
    have hi4 : (i : Int) ≤ 4000 := by omega
    clear hc hE
    have r1 := cellv hr 1 rfl
    have d1 := free_heap hr 1
    have rl := lt_heap hr
    clear hr
    go_wp2_with fail
    go_returns
    refine ⟨[], i + 1, 0, j, _, rfl, HP1.out.keeps ((Keeps.refl (· = r) w1).set (b := r) (Or.inl rfl) 1 _) ?_, by simp, ?_⟩
    · exact show RdG m (w1.setCell ⟨r, 1, none⟩ (.int .i64 ((i : Int) + 1))) r x (i + 1) 0 j by simpa [RdG] using heap_set HP1.out.rd 1 (.int .i64 ((i : Int) + 1))
    · rw [HE.out]
      exact ⟨rfl, rfl, rfl, rfl, by omega⟩
  · have q2 : (((byteAt x i : Nat) : Int) == 41) = false := beq_eq_false_iff_ne.2 (by omega)
    have hE := HWF.out
    rw [if_neg hc] at hE
    have HE := Lib.hid hE
    clear hc hE
    go_wp2_with fail
    refine wd_loop_wp (j := j) (m := m) hx hi HP1.out (fun l i' c' j' v' a' w' h1 hp2 hl4 hw => ?_) _ (id ⟨rfl, rfl, rfl, rfl, trivial⟩)
    refine inBlock_exit ?_
    rename ∀ (a : Act) (w : World), Code.wp _ _ _ a w → _ => hK
    refine hK _ _ ?_
    refine wd_tail_wp (fun a2 h2 => ?_) a' h1
    obtain ⟨Av, cv, rfl⟩ := hp2.own.len
    exact wd_ret_wp ⟨l, i', c', j', _, rfl, hp2, hl4, by rw [HE.out]; exact hw⟩ a2 h2

end Go.Proofs.YtnoceodmnjhljabDoor
