/-
  folform.Constants' inner function: its regions, by parts.
-/
import Derived.Test.YtdofemkfmkopcaaDoorCkA
import Derived.Test.YtdofemkfmkopcaaDoorFmCon
import Derived.Deep.RegionHeld3
import Derived.Deep.RegionLawGrows
import Derived.Deep.AppendLies
import Derived.ArgAppend
namespace Go.Proofs.YtdofemkfmkopcaaDoor
open Go Go.RowKit
set_option linter.unusedSimpArgs false
set_option linter.unusedVariables false

set_option maxRecDepth 1000000 in
theorem frame_cn {P : Act → Prop} (h : ∀ x0 x1 x2 x3 x4 x5 x6 x7 x8 x9 x10 x11 x12 x13 x14 x15 x16 x17 x18 x19 x20 x21 x22 x23 x24 x25 x26 x27 x28 x29 x30 x31 x32 x33 x34 x35 x36 x37 x38 x39 x40 x41 x42 x43 x44 x45 x46 x47 x48 x49 : Value, P ⟨(x0 :: x1 :: x2 :: x3 :: x4 :: x5 :: x6 :: x7 :: x8 :: x9 :: x10 :: x11 :: x12 :: x13 :: x14 :: x15 :: x16 :: x17 :: x18 :: x19 :: x20 :: x21 :: x22 :: x23 :: x24 :: x25 :: x26 :: x27 :: x28 :: x29 :: x30 :: x31 :: x32 :: x33 :: x34 :: x35 :: x36 :: x37 :: x38 :: x39 :: x40 :: x41 :: x42 :: x43 :: x44 :: x45 :: x46 :: x47 :: x48 :: x49 :: []).toArray, []⟩) : ∀ a : Act, a.tmps.toList.length = 50 → a.defers = [] → P a := by
  rintro ⟨⟨l⟩, d⟩ hs hd
  simp only at hd
  subst hd
  revert l
  show ∀ l : List Value, l.length = 50 → P ⟨⟨l⟩, []⟩
  refine openS (n := 49) (fun x0 => ?_)
  refine openS (n := 48) (fun x1 => ?_)
  refine openS (n := 47) (fun x2 => ?_)
  refine openS (n := 46) (fun x3 => ?_)
  refine openS (n := 45) (fun x4 => ?_)
  refine openS (n := 44) (fun x5 => ?_)
  refine openS (n := 43) (fun x6 => ?_)
  refine openS (n := 42) (fun x7 => ?_)
  refine openS (n := 41) (fun x8 => ?_)
  refine openS (n := 40) (fun x9 => ?_)
  refine openS (n := 39) (fun x10 => ?_)
  refine openS (n := 38) (fun x11 => ?_)
  refine openS (n := 37) (fun x12 => ?_)
  refine openS (n := 36) (fun x13 => ?_)
  refine openS (n := 35) (fun x14 => ?_)
  refine openS (n := 34) (fun x15 => ?_)
  refine openS (n := 33) (fun x16 => ?_)
  refine openS (n := 32) (fun x17 => ?_)
  refine openS (n := 31) (fun x18 => ?_)
  refine openS (n := 30) (fun x19 => ?_)
  refine openS (n := 29) (fun x20 => ?_)
  refine openS (n := 28) (fun x21 => ?_)
  refine openS (n := 27) (fun x22 => ?_)
  refine openS (n := 26) (fun x23 => ?_)
  refine openS (n := 25) (fun x24 => ?_)
  refine openS (n := 24) (fun x25 => ?_)
  refine openS (n := 23) (fun x26 => ?_)
  refine openS (n := 22) (fun x27 => ?_)
  refine openS (n := 21) (fun x28 => ?_)
  refine openS (n := 20) (fun x29 => ?_)
  refine openS (n := 19) (fun x30 => ?_)
  refine openS (n := 18) (fun x31 => ?_)
  refine openS (n := 17) (fun x32 => ?_)
  refine openS (n := 16) (fun x33 => ?_)
  refine openS (n := 15) (fun x34 => ?_)
  refine openS (n := 14) (fun x35 => ?_)
  refine openS (n := 13) (fun x36 => ?_)
  refine openS (n := 12) (fun x37 => ?_)
  refine openS (n := 11) (fun x38 => ?_)
  refine openS (n := 10) (fun x39 => ?_)
  refine openS (n := 9) (fun x40 => ?_)
  refine openS (n := 8) (fun x41 => ?_)
  refine openS (n := 7) (fun x42 => ?_)
  refine openS (n := 6) (fun x43 => ?_)
  refine openS (n := 5) (fun x44 => ?_)
  refine openS (n := 4) (fun x45 => ?_)
  refine openS (n := 3) (fun x46 => ?_)
  refine openS (n := 2) (fun x47 => ?_)
  refine openS (n := 1) (fun x48 => ?_)
  refine openS (n := 0) (fun x49 => ?_)
  refine open0 ?_
  exact h x0 x1 x2 x3 x4 x5 x6 x7 x8 x9 x10 x11 x12 x13 x14 x15 x16 x17 x18 x19 x20 x21 x22 x23 x24 x25 x26 x27 x28 x29 x30 x31 x32 x33 x34 x35 x36 x37 x38 x39 x40 x41 x42 x43 x44 x45 x46 x47 x48 x49
theorem rowGrownF {w w' : World} {base : Nat} {E : TypeId} {size n : Nat} {v : Value} {xs : List Value} (h : w.ownsRow base E size v n xs) (hk : ∀ b, b < w.heap.size → v.ownBlock = some b → w'.heap[b]? = w.heap[b]?) : w'.ownsRow base E size v n xs := by
  obtain ⟨h1, h2⟩ := h
  refine ⟨h1, ?_⟩
  rcases h2 with h2 | ⟨g, cap, cur, e, hg, hh, r⟩
  · exact Or.inl h2
  · exact Or.inr ⟨g, cap, cur, e, hg, (hk g (lt_heap hh) (by rw [e]; rfl)).trans hh, r⟩
/-- A list of strings that is appended to through a pointer: the box bl holds its slice v, a row of the call's own. -/
structure LB (w : World) (bl : Nat) (v : Value) (l : List ByteArray) : Prop where
  box : w.heap[bl]? = some (.cells #[v] 22 (0, 0))
  row : w.ownsRow 0 9 1 v l.length (l.map .string)
  ne : v.ownBlock ≠ some bl
theorem LB.lt {w : World} {bl : Nat} {v : Value} {l : List ByteArray} (h : LB w bl v l) : ∀ b, v.ownBlock = some b → b < w.heap.size := fun b e => (h.row.lt b e).2
theorem LB.keep {w w' : World} {bl : Nat} {v : Value} {l : List ByteArray} (h : LB w bl v l) (h1 : w'.heap[bl]? = w.heap[bl]?) (h2 : ∀ b, b < w.heap.size → v.ownBlock = some b → w'.heap[b]? = w.heap[b]?) : LB w' bl v l := ⟨h1.trans h.box, rowGrownF h.row h2, h.ne⟩
theorem LB.below {w w' : World} {bl : Nat} {v : Value} {l : List ByteArray} (h : LB w bl v l) (hb : Below w.heap.size w w') : LB w' bl v l := h.keep (hb.block _ (lt_heap h.box)) (fun b hb' _ => hb.block b hb')
/-- What stays of memory while the list in box bl (its slice v at the start) grows to v'. -/
structure LK (w w' : World) (bl : Nat) (v v' : Value) : Prop where
  os : w'.os = w.os
  tape : w'.tape = w.tape
  output : w'.output = w.output
  size : w.heap.size ≤ w'.heap.size
  block : ∀ k, k < w.heap.size → k ≠ bl → v.ownBlock ≠ some k → w'.heap[k]? = w.heap[k]?
  at_ : ∀ k, v'.ownBlock = some k → v.ownBlock = some k ∨ w.heap.size ≤ k
theorem LK.refl (w : World) (bl : Nat) (v : Value) : LK w w bl v v := ⟨rfl, rfl, rfl, Nat.le_refl _, fun _ _ _ _ => rfl, fun _ h => Or.inl h⟩
theorem LK.trans {u v w : World} {bl : Nat} {a b c : Value} (h : LK u v bl a b) (k : LK v w bl b c) : LK u w bl a c :=
  ⟨k.os.trans h.os, k.tape.trans h.tape, k.output.trans h.output, Nat.le_trans h.size k.size, fun i h1 h2 h3 => (k.block i (Nat.lt_of_lt_of_le h1 h.size) h2 (fun e => by rcases h.at_ i e with e | e; exact h3 e; omega)).trans (h.block i h1 h2 h3),
    fun i e => by
      rcases k.at_ i e with e | e
      · exact h.at_ i e
      · exact Or.inr (Nat.le_trans h.size e)⟩
theorem LK.below {w w' : World} (bl : Nat) (v : Value) (h : Below w.heap.size w w') : LK w w' bl v v := ⟨h.os, h.tape, h.output, h.size, fun k h1 _ _ => h.block k h1, fun _ h => Or.inl h⟩
/-- In Constants' inner function: its own block, the list. -/
structure KS (wo w : World) (bl : Nat) (v0 : Value) (kd : Int) (nm : ByteArray) (A : Option Addr) (n1 c1 : Nat) (B : Option Addr) (n2 c2 : Nat) (v : Value) (l : List ByteArray) : Prop where
  a : w.heap[wo.heap.size]? = some (.cells #[.int .i64 kd, .string nm, .slice A n1 c1, .slice B n2 c2] 25 (0, 0))
  b : LB w bl v l
  k : LK wo w bl v0 v
  l0 : bl < wo.heap.size
  lv : ∀ k, v0.ownBlock = some k → k < wo.heap.size
theorem KS.av {wo w : World} {bl : Nat} {l : List ByteArray} {v0 v : Value} {kd : Int} {nm : ByteArray} {A B : Option Addr} {n1 c1 n2 c2 : Nat} (h : KS wo w bl v0 kd nm A n1 c1 B n2 c2 v l) : v.ownBlock ≠ some wo.heap.size := fun e => by
  rcases h.k.at_ _ e with e1 | _
  · have := h.lv _ e1; omega
  · have hh := h.a
    rcases h.b.row.2 with ⟨e', _⟩ | ⟨g, cap, cur, e', _, hc, _⟩
    · rw [e'] at e; cases e
    · rw [e'] at e; injection e with e; subst e; rw [hc] at hh; injection hh with hh; injection hh with _ hh _; revert hh; decide
theorem KS.step {wo w w' : World} {bl : Nat} {l l' : List ByteArray} {v0 v v' : Value} {kd : Int} {nm : ByteArray} {A B : Option Addr} {n1 c1 n2 c2 : Nat} (h : KS wo w bl v0 kd nm A n1 c1 B n2 c2 v l) (hb : LB w' bl v' l') (hk : LK w w' bl v v') : KS wo w' bl v0 kd nm A n1 c1 B n2 c2 v' l' :=
  ⟨(hk.block _ (lt_heap h.a) (by have := h.l0; omega) h.av).trans h.a, hb, h.k.trans hk, h.l0, h.lv⟩
theorem KS.below {wo w w' : World} {bl : Nat} {l : List ByteArray} {v0 v : Value} {kd : Int} {nm : ByteArray} {A B : Option Addr} {n1 c1 n2 c2 : Nat} (h : KS wo w bl v0 kd nm A n1 c1 B n2 c2 v l) (hb : Below w.heap.size w w') : KS wo w' bl v0 kd nm A n1 c1 B n2 c2 v l := h.step (h.b.below hb) (LK.below _ _ hb)
theorem KS.old {wo w : World} {bl : Nat} {l : List ByteArray} {v0 v : Value} {kd : Int} {nm : ByteArray} {A B : Option Addr} {n1 c1 n2 c2 : Nat} (h : KS wo w bl v0 kd nm A n1 c1 B n2 c2 v l) {S : Nat → Prop} (hS : ∀ k, S k → k < wo.heap.size ∧ k ≠ bl ∧ v0.ownBlock ≠ some k) : ∀ k, S k → w.heap[k]? = wo.heap[k]? := fun k hk => h.k.block k (hS k hk).1 (hS k hk).2.1 (hS k hk).2.2
theorem infoStr : (Tryd.prog.info? 9).map (fun i => (i.zero, i.size, i.bytes)) = some (some (.string ⟨#[]⟩), 1, 16) := by kernel_rfl
noncomputable def c_cn_r0 : Code := sub [0] (Tryd.f59.body.getD .skip)
set_option maxRecDepth 1000000 in
set_option maxHeartbeats 16000000 in
theorem cn_r0_wp {Q : Exit → Act → World → Prop} {bl bw m e : Nat} {D : Option Addr} {l : List ByteArray} {v : Value} {wo : World} {kd : Int} {nm : ByteArray} {A B : Option Addr} {n1 c1 n2 c2 : Nat} (hb : LB wo bl v l) (hN : ∀ a' w', Frm 50 [(1, (.slice D m e)), (2, .pointer (some ⟨bl, 0, none⟩)), (3, .pointer (some ⟨bw, 0, none⟩)), (4, .pointer (some ⟨wo.heap.size, 0, none⟩))] a' → KS wo w' bl v kd nm A n1 c1 B n2 c2 v l → Q .normal a' w') : ∀ ac, Frm 50 [(0, .agg #[.int .i64 kd, .string nm, .slice A n1 c1, .slice B n2 c2]), (1, (.slice D m e)), (2, .pointer (some ⟨bl, 0, none⟩)), (3, .pointer (some ⟨bw, 0, none⟩))] ac → Code.wp Tryd.prog c_cn_r0 Q ac wo := by
  refine frm_open ?_
  refine frame_cn ?_
  intros
  rename_i hq
  obtain ⟨-, -, e0q, e1q, e2q, e3q, -⟩ := hq
  obtain rfl := sI e0q
  obtain rfl := sI e1q
  obtain rfl := sI e2q
  obtain rfl := sI e3q
  conv => arg 2; whnf
  have hlb := lt_heap hb.box
  have hlv := hb.lt
  have HB := Lib.hid hb
  clear hb
  have HN := Lib.hid hN
  have HLV := Lib.hid hlv
  clear hN hlv
  go_wp2_with fail
  exact HN.out _ _ (id ⟨rfl, rfl, rfl, rfl, rfl, rfl, trivial⟩) ⟨heap_at rfl, HB.out.below ((Below.refl _ _).alloc (Nat.le_refl _) _), LK.below _ _ ((Below.refl _ _).alloc (Nat.le_refl _) _), hlb, HLV.out⟩
noncomputable def c_cn_r1 : Code := sub [1, 0, 0] (Tryd.f59.body.getD .skip)
set_option maxRecDepth 1000000 in
set_option maxHeartbeats 16000000 in
theorem cn_r1_wp {Q : Exit → Act → World → Prop} {bl bw m e : Nat} {D : Option Addr} {l : List ByteArray} {v0 v : Value} {wo w : World} {kd : Int} {nm : ByteArray} {A B : Option Addr} {n1 c1 n2 c2 : Nat} (hs : KS wo w bl v0 kd nm A n1 c1 B n2 c2 v l) (hN : ∀ a', Frm 50 [(1, (.slice D m e)), (2, .pointer (some ⟨bl, 0, none⟩)), (3, .pointer (some ⟨bw, 0, none⟩)), (4, .pointer (some ⟨wo.heap.size, 0, none⟩)), (11, .slice A n1 c1), (12, .int .i64 (n1 : Nat)), (13, .int .i64 (0 : Nat))] a' → Q .normal a' w) : ∀ ac, Frm 50 [(1, (.slice D m e)), (2, .pointer (some ⟨bl, 0, none⟩)), (3, .pointer (some ⟨bw, 0, none⟩)), (4, .pointer (some ⟨wo.heap.size, 0, none⟩))] ac → Code.wp Tryd.prog c_cn_r1 Q ac w := by
  refine frm_open ?_
  refine frame_cn ?_
  intros
  rename_i hq
  obtain ⟨-, -, e0q, e1q, e2q, e3q, -⟩ := hq
  obtain rfl := sI e0q
  obtain rfl := sI e1q
  obtain rfl := sI e2q
  obtain rfl := sI e3q
  conv => arg 2; whnf
  have a0 := cellv hs.a 0 rfl
  have a1 := cellv hs.a 1 rfl
  have a2 := cellv hs.a 2 rfl
  have a3 := cellv hs.a 3 rfl
  have al := lt_heap hs.a
  have HS := Lib.hid hs
  clear hs
  have HN := Lib.hid hN
  clear hN
  go_wp2_with fail
  exact HN.out _ (id ⟨rfl, rfl, rfl, rfl, rfl, rfl, rfl, rfl, rfl, trivial⟩)
noncomputable def c_cn_r2 : Code := sub [1, 0, 1, 0, 0, 0] (Tryd.f59.body.getD .skip)
set_option maxRecDepth 1000000 in
set_option maxHeartbeats 16000000 in
theorem cn_r2_wp {Q : Exit → Act → World → Prop} {i bl bw m e : Nat} {D : Option Addr} {wo w : World} {A : Option Addr} {n1 c1 : Nat} (hN : ∀ a', Frm 50 [(1, (.slice D m e)), (2, .pointer (some ⟨bl, 0, none⟩)), (3, .pointer (some ⟨bw, 0, none⟩)), (4, .pointer (some ⟨wo.heap.size, 0, none⟩)), (11, .slice A n1 c1), (12, .int .i64 (n1 : Nat)), (13, .int .i64 (i : Nat)), (14, .bool (decide (i < n1)))] a' → Q .normal a' w) : ∀ ac, Frm 50 [(1, (.slice D m e)), (2, .pointer (some ⟨bl, 0, none⟩)), (3, .pointer (some ⟨bw, 0, none⟩)), (4, .pointer (some ⟨wo.heap.size, 0, none⟩)), (11, .slice A n1 c1), (12, .int .i64 (n1 : Nat)), (13, .int .i64 (i : Nat))] ac → Code.wp Tryd.prog c_cn_r2 Q ac w := by
  refine frm_open ?_
  refine frame_cn ?_
  intros
  rename_i hq
  obtain ⟨-, -, e0q, e1q, e2q, e3q, e4q, e5q, e6q, -⟩ := hq
  obtain rfl := sI e0q
  obtain rfl := sI e1q
  obtain rfl := sI e2q
  obtain rfl := sI e3q
  obtain rfl := sI e4q
  obtain rfl := sI e5q
  obtain rfl := sI e6q
  conv => arg 2; whnf
  by_cases h : i < n1
  · have t1 : decide ((i : Int) < (n1 : Int)) = true := decide_eq_true (by omega)
    have t2 : decide (i < n1) = true := decide_eq_true h
    rw [t2] at hN
    clear h
    have HN := Lib.hid hN
    clear hN
    go_wp2_with fail
    exact HN.out _ (id ⟨rfl, rfl, rfl, rfl, rfl, rfl, rfl, rfl, rfl, rfl, trivial⟩)
  · have t1 : decide ((i : Int) < (n1 : Int)) = false := decide_eq_false (by omega)
    have t2 : decide (i < n1) = false := decide_eq_false h
    rw [t2] at hN
    clear h
    have HN := Lib.hid hN
    clear hN
    go_wp2_with fail
    exact HN.out _ (id ⟨rfl, rfl, rfl, rfl, rfl, rfl, rfl, rfl, rfl, rfl, trivial⟩)
noncomputable def c_cn_r3 : Code := sub [1, 0, 1, 0, 0, 1, 1, 0, 0, 0] (Tryd.f59.body.getD .skip)
set_option maxRecDepth 1000000 in
set_option maxHeartbeats 16000000 in
theorem cn_r3_wp {Q : Exit → Act → World → Prop} {b o : Nat} {s : ByteArray} {i bl bw m e : Nat} {D : Option Addr} {wo w : World} {n1 c1 : Nat} (hi : i < n1) (hc : w.cell? ⟨b, o + i, none⟩ = some (.string s)) (hbl : b < w.heap.size) (hN : ∀ a', Frm 50 [(1, (.slice D m e)), (2, .pointer (some ⟨bl, 0, none⟩)), (3, .pointer (some ⟨bw, 0, none⟩)), (4, .pointer (some ⟨wo.heap.size, 0, none⟩)), (11, .slice (some ⟨b, o, none⟩) n1 c1), (12, .int .i64 (n1 : Nat)), (13, .int .i64 (i : Nat)), (7, .string s)] a' → Q .normal a' w) : ∀ ac, Frm 50 [(1, (.slice D m e)), (2, .pointer (some ⟨bl, 0, none⟩)), (3, .pointer (some ⟨bw, 0, none⟩)), (4, .pointer (some ⟨wo.heap.size, 0, none⟩)), (11, .slice (some ⟨b, o, none⟩) n1 c1), (12, .int .i64 (n1 : Nat)), (13, .int .i64 (i : Nat))] ac → Code.wp Tryd.prog c_cn_r3 Q ac w := by
  refine frm_open ?_
  refine frame_cn ?_
  intros
  rename_i hq
  obtain ⟨-, -, e0q, e1q, e2q, e3q, e4q, e5q, e6q, -⟩ := hq
  obtain rfl := sI e0q
  obtain rfl := sI e1q
  obtain rfl := sI e2q
  obtain rfl := sI e3q
  obtain rfl := sI e4q
  obtain rfl := sI e5q
  obtain rfl := sI e6q
  conv => arg 2; whnf
  have q0 : (0 : Int) ≤ (i : Int) := by omega
  have q1 : (i : Int) < (n1 : Int) := by omega
  have HN := Lib.hid hN
  clear hN
  go_wp2_with fail
  exact HN.out _ (id ⟨rfl, rfl, rfl, rfl, rfl, rfl, rfl, rfl, rfl, rfl, trivial⟩)
noncomputable def c_cn_r4 : Code := sub [1, 0, 1, 0, 0, 1, 1, 0, 0, 1, 0] (Tryd.f59.body.getD .skip)
set_option maxRecDepth 1000000 in
set_option maxHeartbeats 16000000 in
theorem cn_r4_wp {Q : Exit → Act → World → Prop} {bb : Bool} {s : ByteArray} {i bl bw m e : Nat} {D : Option Addr} {wo w : World} {A : Option Addr} {n1 c1 : Nat} (hc : Calls Tryd.prog 60 #[(.slice D m e), .string s] w fun e w' => e = .returned (.bool bb) ∧ w' = w) (hN : ∀ a', Frm 50 [(1, (.slice D m e)), (2, .pointer (some ⟨bl, 0, none⟩)), (3, .pointer (some ⟨bw, 0, none⟩)), (4, .pointer (some ⟨wo.heap.size, 0, none⟩)), (11, .slice A n1 c1), (12, .int .i64 (n1 : Nat)), (13, .int .i64 (i : Nat)), (7, .string s), (20, .bool (!bb))] a' → Q .normal a' w) : ∀ ac, Frm 50 [(1, (.slice D m e)), (2, .pointer (some ⟨bl, 0, none⟩)), (3, .pointer (some ⟨bw, 0, none⟩)), (4, .pointer (some ⟨wo.heap.size, 0, none⟩)), (11, .slice A n1 c1), (12, .int .i64 (n1 : Nat)), (13, .int .i64 (i : Nat)), (7, .string s)] ac → Code.wp Tryd.prog c_cn_r4 Q ac w := by
  refine frm_open ?_
  refine frame_cn ?_
  intros
  rename_i hq
  obtain ⟨-, -, e0q, e1q, e2q, e3q, e4q, e5q, e6q, e7q, -⟩ := hq
  obtain rfl := sI e0q
  obtain rfl := sI e1q
  obtain rfl := sI e2q
  obtain rfl := sI e3q
  obtain rfl := sI e4q
  obtain rfl := sI e5q
  obtain rfl := sI e6q
  obtain rfl := sI e7q
  conv => arg 2; whnf
  have HN := Lib.hid hN
  have HC := Lib.hid hc
  clear hN hc
  go_wp2_with fail
  (with_reducible refine HC.out.mono ?_)
  rintro e w1 ⟨rfl, rfl⟩
  go_wp2_with fail
  exact HN.out _ (id ⟨rfl, rfl, rfl, rfl, rfl, rfl, rfl, rfl, rfl, rfl, rfl, trivial⟩)
theorem KS.appended {wo w w2 : World} {bl gg cap : Nat} {l : List ByteArray} {v0 v : Value} {s : ByteArray} {o : Obj} {kd : Int} {nm : ByteArray} {A B : Option Addr} {n1 c1 n2 c2 : Nat} (h : KS wo w bl v0 kd nm A n1 c1 B n2 c2 v l) (hown : w2.ownsRow 0 9 1 (.slice (some ⟨gg, 0, none⟩) (l.length + 1) cap) (l.length + 1) (l.map .string ++ [.string s])) (hg : (w.alloc o).grownBy w2 v.ownBlock) (hat : v.ownBlock = some gg ∨ gg = w.heap.size + 1) :
    w2.heap[bl]? = some (.cells #[v] 22 (0, 0)) ∧ KS wo (w2.setCell ⟨bl, 0, none⟩ (.slice (some ⟨gg, 0, none⟩) (l.length + 1) cap)) bl v0 kd nm A n1 c1 B n2 c2 (.slice (some ⟨gg, 0, none⟩) (l.length + 1) cap) (l ++ [s]) := by
  have hbl := lt_heap h.b.box
  have hk : ∀ k, k < w.heap.size → v.ownBlock ≠ some k → w2.heap[k]? = w.heap[k]? := fun k h1 h2 => (hg.block k (by simp; omega) (fun e => h2 e.symm)).trans (heap_old h1 rfl)
  have hb2 := (hk bl hbl h.b.ne).trans h.b.box
  have hgb : gg ≠ bl := by
    rintro rfl
    rcases hat with e | e
    · exact h.b.ne e
    · omega
  have hsz : w.heap.size + 1 ≤ w2.heap.size := by have := hg.size; simpa using this
  refine ⟨hb2, h.step ⟨by simpa using heap_set hb2 0 (.slice (some ⟨gg, 0, none⟩) (l.length + 1) cap), ?_, fun e => hgb (by injection e with e)⟩ ⟨hg.os, hg.tape, hg.output, by rw [size_set]; omega, fun k h1 h2 h3 => heap_far _ h2 (hk k h1 h3), fun k e => ?_⟩⟩
  · have h1 : (w2.setCell ⟨bl, 0, none⟩ (.slice (some ⟨gg, 0, none⟩) (l.length + 1) cap)).ownsRow 0 9 1 (.slice (some ⟨gg, 0, none⟩) (l.length + 1) cap) (l.length + 1) (l.map .string ++ [.string s]) := rowGrownF hown (fun b _ e => heap_far _ (by rintro rfl; injection e with e; exact hgb e) rfl)
    simpa using h1
  · have e2 : gg = k := Option.some.inj e
    subst e2
    rcases hat with e | e
    · exact Or.inl e
    · exact Or.inr (by omega)
noncomputable def c_cn_r5 : Code := sub [1, 0, 1, 0, 0, 1, 1, 0, 0, 1, 1, 0] (Tryd.f59.body.getD .skip)
set_option maxRecDepth 1000000 in
set_option maxHeartbeats 16000000 in
theorem cn_r5_wp {Q : Exit → Act → World → Prop} {s : ByteArray} {i : Nat} {bl bw m e : Nat} {D : Option Addr} {l : List ByteArray} {v0 v : Value} {wo w : World} {kd : Int} {nm : ByteArray} {A B : Option Addr} {n1 c1 n2 c2 : Nat} (hl : l.length ≤ 1000000) (hs : KS wo w bl v0 kd nm A n1 c1 B n2 c2 v l) (hN : ∀ v' a' w', Frm 50 [(1, (.slice D m e)), (2, .pointer (some ⟨bl, 0, none⟩)), (3, .pointer (some ⟨bw, 0, none⟩)), (4, .pointer (some ⟨wo.heap.size, 0, none⟩)), (11, .slice A n1 c1), (12, .int .i64 (n1 : Nat)), (13, .int .i64 (i : Nat))] a' → KS wo w' bl v0 kd nm A n1 c1 B n2 c2 v' (l ++ [s]) → Q .normal a' w') : ∀ ac, Frm 50 [(1, (.slice D m e)), (2, .pointer (some ⟨bl, 0, none⟩)), (3, .pointer (some ⟨bw, 0, none⟩)), (4, .pointer (some ⟨wo.heap.size, 0, none⟩)), (11, .slice A n1 c1), (12, .int .i64 (n1 : Nat)), (13, .int .i64 (i : Nat)), (7, .string s)] ac → Code.wp Tryd.prog c_cn_r5 Q ac w := by
  refine frm_open ?_
  refine frame_cn ?_
  intros
  rename_i hq
  obtain ⟨-, -, e0q, e1q, e2q, e3q, e4q, e5q, e6q, e7q, -⟩ := hq
  obtain rfl := sI e0q
  obtain rfl := sI e1q
  obtain rfl := sI e2q
  obtain rfl := sI e3q
  obtain rfl := sI e4q
  obtain rfl := sI e5q
  obtain rfl := sI e6q
  obtain rfl := sI e7q
  conv => arg 2; whnf
  obtain ⟨ts, hts, ht0, ht1, ht2⟩ := info_parts infoStr
  have b0 := cellv hs.b.box 0 rfl
  have bf := free_heap hs.b.box 0
  have blt := lt_heap hs.b.box
  obtain ⟨A9, c9, rfl⟩ : ∃ A c, v = .slice A l.length c := by
    rcases hs.b.row.2 with ⟨e, e0⟩ | ⟨g, cap, cur, e, _⟩
    · exact ⟨none, 0, by rw [e, e0]⟩
    · exact ⟨_, _, e⟩
  have hrow := hs.b.row
  have HS := Lib.hid hs
  clear hs
  have HN := Lib.hid hN
  have HROW := Lib.hid hrow
  clear hN hrow
  go_wp2_with (at_builtin; refine wpList_append_lies (w.alloc (.cells #[.string s] 9)) ?h1 (.tmp 21) (.tmp 23) 22 ?h2 0 9 ts (.string ⟨#[]⟩) 1 16 ?h3 hts ht0 ht1 ht2 ?h4 ?h5 (.slice A9 l.length c9) l.length (l.map .string) ?h6 ?h7 ⟨w.heap.size, 0, none⟩ 1 1 [.string s] ?h8 ?h9 ?h10 ?h11 ?h12 ?h13 ?h14 ?h15 (w.heap.size + 1) ?h16 ?_)
  try (case h1 => rfl)
  try (case h2 => rfl)
  try (case h3 => exact Tryd.underlying22)
  try (case h4 => rfl)
  try (case h5 => omega)
  try (case h6 => rfl)
  try (case h7 => exact HROW.out.alloc _)
  try (case h8 => rfl)
  try (case h9 => rfl)
  try (case h10 => exact World.news_of_block (cs := #[.string s]) (t := 9) (fr := (0, 0)) (heap_alloc_new w _))
  try (case h11 => simp [Value.oneCell'])
  try (case h12 => omega)
  try (case h13 => first | (simp [maxLen]; omega) | (unfold maxLen; omega))
  try (case h14 => omega)
  try (case h15 => first | omega | (simp; omega))
  try (case h16 => first | rfl | simp)
  intro gg cap w6 hown3 hgrow hat hlt
  have hap := HS.out.appended hown3 hgrow hat
  have HAP := Lib.hid hap
  have d0 := cellv hap.1 0 rfl
  have df := free_heap hap.1 0
  have dl := lt_heap hap.1
  clear hown3 hgrow hat hap b0 bf blt hlt
  go_wp2_with fail
  exact HN.out _ _ _ (id ⟨rfl, rfl, rfl, rfl, rfl, rfl, rfl, rfl, rfl, trivial⟩) HAP.out.2
noncomputable def c_cn_r6 : Code := sub [1, 0, 1, 0, 0, 1, 1, 1] (Tryd.f59.body.getD .skip)
set_option maxRecDepth 1000000 in
set_option maxHeartbeats 16000000 in
theorem cn_r6_wp {Q : Exit → Act → World → Prop} {i bl bw m e : Nat} {D : Option Addr} {wo w : World} {A : Option Addr} {n1 c1 : Nat} (hi : i < n1) (hlim : n1 ≤ maxLen) (hN : ∀ a', Frm 50 [(1, (.slice D m e)), (2, .pointer (some ⟨bl, 0, none⟩)), (3, .pointer (some ⟨bw, 0, none⟩)), (4, .pointer (some ⟨wo.heap.size, 0, none⟩)), (11, .slice A n1 c1), (12, .int .i64 (n1 : Nat)), (13, .int .i64 (i + 1 : Nat))] a' → Q .normal a' w) : ∀ ac, Frm 50 [(1, (.slice D m e)), (2, .pointer (some ⟨bl, 0, none⟩)), (3, .pointer (some ⟨bw, 0, none⟩)), (4, .pointer (some ⟨wo.heap.size, 0, none⟩)), (11, .slice A n1 c1), (12, .int .i64 (n1 : Nat)), (13, .int .i64 (i : Nat))] ac → Code.wp Tryd.prog c_cn_r6 Q ac w := by
  refine frm_open ?_
  refine frame_cn ?_
  intros
  rename_i hq
  obtain ⟨-, -, e0q, e1q, e2q, e3q, e4q, e5q, e6q, -⟩ := hq
  obtain rfl := sI e0q
  obtain rfl := sI e1q
  obtain rfl := sI e2q
  obtain rfl := sI e3q
  obtain rfl := sI e4q
  obtain rfl := sI e5q
  obtain rfl := sI e6q
  conv => arg 2; whnf
  have hi4 : (i : Int) ≤ 9223372036854775806 := by unfold maxLen at hlim; omega
  have HN := Lib.hid hN
  clear hN
  go_wp2_with fail
  exact HN.out _ (id ⟨rfl, rfl, rfl, rfl, rfl, rfl, rfl, rfl, rfl, trivial⟩)
noncomputable def c_cn_r7 : Code := sub [1, 1, 0, 0] (Tryd.f59.body.getD .skip)
set_option maxRecDepth 1000000 in
set_option maxHeartbeats 16000000 in
theorem cn_r7_wp {Q : Exit → Act → World → Prop} {bl bw m e : Nat} {D : Option Addr} {l : List ByteArray} {v0 v : Value} {wo w : World} {kd : Int} {nm : ByteArray} {A B : Option Addr} {n1 c1 n2 c2 : Nat} (hs : KS wo w bl v0 kd nm A n1 c1 B n2 c2 v l) (hN : ∀ a' w', Frm 50 [(1, (.slice D m e)), (2, .pointer (some ⟨bl, 0, none⟩)), (3, .pointer (some ⟨bw, 0, none⟩)), (4, .pointer (some ⟨wo.heap.size, 0, none⟩)), (27, .bool (isQu kd))] a' → KS wo w' bl v0 kd nm A n1 c1 B n2 c2 v l → Below w.heap.size w w' → Q .normal a' w') : ∀ ac, Frm 50 [(1, (.slice D m e)), (2, .pointer (some ⟨bl, 0, none⟩)), (3, .pointer (some ⟨bw, 0, none⟩)), (4, .pointer (some ⟨wo.heap.size, 0, none⟩))] ac → Code.wp Tryd.prog c_cn_r7 Q ac w := by
  refine frm_open ?_
  refine frame_cn ?_
  intros
  rename_i hq
  obtain ⟨-, -, e0q, e1q, e2q, e3q, -⟩ := hq
  obtain rfl := sI e0q
  obtain rfl := sI e1q
  obtain rfl := sI e2q
  obtain rfl := sI e3q
  conv => arg 2; whnf
  have hq := quant_any kd nm A B n1 c1 n2 c2 w
  have a0 := cellv hs.a 0 rfl
  have a1 := cellv hs.a 1 rfl
  have a2 := cellv hs.a 2 rfl
  have a3 := cellv hs.a 3 rfl
  have al := lt_heap hs.a
  have HS := Lib.hid hs
  clear hs
  have HN := Lib.hid hN
  have HQ := Lib.hid hq
  clear hN hq
  go_wp2_with fail
  (with_reducible refine HQ.out.mono ?_)
  rintro e w1 ⟨rfl, hb1⟩
  have hs := HS.out.below hb1
  have HS1 := Lib.hid hs
  have HB1 := Lib.hid hb1
  clear hb1 hs
  go_wp2_with fail
  exact HN.out _ _ (id ⟨rfl, rfl, rfl, rfl, rfl, rfl, rfl, trivial⟩) HS1.out HB1.out
noncomputable def c_cn_r8 : Code := sub [1, 1, 0, 1, 0] (Tryd.f59.body.getD .skip)
set_option maxRecDepth 1000000 in
set_option maxHeartbeats 16000000 in
theorem cn_r8_wp {K : Act → World → Prop} {b o : Nat} {bd : List ByteArray} {bl bw m e : Nat} {l : List ByteArray} {v0 v : Value} {wo w : World} {kd : Int} {nm : ByteArray} {A B : Option Addr} {n1 c1 n2 c2 : Nat} (hbl : bd.length = m) (hm : m ≤ 1000000) (hme : m ≤ e) (hbw : b < w.heap.size) (hcell : ∀ j u, (bd.map Value.string)[j]? = some u → w.cell? ⟨b, o + j, none⟩ = some u) (hs : KS wo w bl v0 kd nm A n1 c1 B n2 c2 v l) (hN : ∀ v' a' w', Frm 50 [(1, v'), (2, .pointer (some ⟨bl, 0, none⟩)), (3, .pointer (some ⟨bw, 0, none⟩)), (4, .pointer (some ⟨wo.heap.size, 0, none⟩))] a' → w'.ownsRow (w.heap.size + 1) 9 1 v' (m + 1) (bd.map .string ++ [.string nm]) → Below w.heap.size w w' → K a' w') : ∀ ac, Frm 50 [(1, (.slice (some ⟨b, o, none⟩) m e)), (2, .pointer (some ⟨bl, 0, none⟩)), (3, .pointer (some ⟨bw, 0, none⟩)), (4, .pointer (some ⟨wo.heap.size, 0, none⟩))] ac → Code.wp Tryd.prog c_cn_r8 (Exit.then K (fun _ _ _ => False)) ac w := by
  refine frm_open ?_
  refine frame_cn ?_
  intros
  rename_i hq
  obtain ⟨-, -, e0q, e1q, e2q, e3q, -⟩ := hq
  obtain rfl := sI e0q
  obtain rfl := sI e1q
  obtain rfl := sI e2q
  obtain rfl := sI e3q
  conv => arg 2; whnf
  obtain ⟨ts, hts, ht0, ht1, ht2⟩ := info_parts infoStr
  have q1 : (m : Int) ≤ (e : Int) := by omega
  have hcA : ∀ j u, (bd.map Value.string)[j]? = some u → (w.alloc (.cells #[.string nm] 9)).cell? ⟨b, o + j, none⟩ = some u := fun j u hu => (cell_keep (heap_old hbw rfl) _).trans (hcell j u hu)
  have HCELLA := Lib.hid hcA
  clear hcA hcell
  have hm4 : m ≤ 1000000 := hm
  have a0 := cellv hs.a 0 rfl
  have a1 := cellv hs.a 1 rfl
  have a2 := cellv hs.a 2 rfl
  have a3 := cellv hs.a 3 rfl
  have al := lt_heap hs.a
  have HS := Lib.hid hs
  clear hs
  go_region_law ((refine step_append_grows (by rfl) (.tmp 33) (.tmp 36) 22 (by rfl) 9 ts (.string ⟨#[]⟩) 1 16 Tryd.underlying22 hts ht0 ht1 ht2 rfl (by decide) (some ⟨b, o, none⟩) m m (bd.map .string) (by rfl) ?c0 ?c1 ?c2 ⟨w.heap.size, 0, none⟩ 1 1 [.string nm] (by rfl) rfl ?c3 ?c4 ?c5 ?c6 ?c7 ?_; (case c0 => (first | (intro h; cases h; done) | exact fun _ => ⟨rfl, rfl⟩)); (case c1 => (simp [hbl])); (case c2 => (intro b9 hb9 j u hu; cases hb9; rw [Addr.add_lit]; exact HCELLA.out j u hu)); (case c3 => (exact World.news_of_block (cs := #[.string nm]) (t := 9) (fr := (0, 0)) (by first | exact heap_drew (heap_alloc_new w _) | exact heap_alloc_new w _ | exact heap_alloc_new w.drew _))); (case c4 => (intro u hu; simp at hu; subst hu; rfl)); (case c5 => omega); (case c6 => (unfold maxLen; omega)); (case c7 => omega); intro v' w2 hown hgrow; have HOWN := Lib.hid hown; have HGROW := Lib.hid hgrow; clear hown hgrow))
  all_goals go_wp2_with fail
  all_goals exact hN _ _ _ (id ⟨rfl, rfl, rfl, rfl, rfl, rfl, trivial⟩) (by simpa using HOWN.out) (by first | exact ⟨HGROW.out.os, HGROW.out.tape, HGROW.out.output, by have := HGROW.out.size; simp at this; omega, fun k hk => (HGROW.out.block k (by simp; omega) (by simp)).trans (by first | exact heap_drew (heap_old hk rfl) | exact heap_old hk rfl)⟩)
noncomputable def c_cn_r8n : Code := sub [1, 1, 0, 1, 0] (Tryd.f59.body.getD .skip)
set_option maxRecDepth 1000000 in
set_option maxHeartbeats 16000000 in
theorem cn_r8n_wp {K : Act → World → Prop} {bd : List ByteArray} {bl bw e : Nat} {l : List ByteArray} {v0 v : Value} {wo w : World} {kd : Int} {nm : ByteArray} {A B : Option Addr} {n1 c1 n2 c2 : Nat} (hbl : bd = []) (hs : KS wo w bl v0 kd nm A n1 c1 B n2 c2 v l) (hN : ∀ v' a' w', Frm 50 [(1, v'), (2, .pointer (some ⟨bl, 0, none⟩)), (3, .pointer (some ⟨bw, 0, none⟩)), (4, .pointer (some ⟨wo.heap.size, 0, none⟩))] a' → w'.ownsRow (w.heap.size + 1) 9 1 v' (0 + 1) (bd.map .string ++ [.string nm]) → Below w.heap.size w w' → K a' w') : ∀ ac, Frm 50 [(1, (.slice none 0 e)), (2, .pointer (some ⟨bl, 0, none⟩)), (3, .pointer (some ⟨bw, 0, none⟩)), (4, .pointer (some ⟨wo.heap.size, 0, none⟩))] ac → Code.wp Tryd.prog c_cn_r8n (Exit.then K (fun _ _ _ => False)) ac w := by
  refine frm_open ?_
  refine frame_cn ?_
  intros
  rename_i hq
  obtain ⟨-, -, e0q, e1q, e2q, e3q, -⟩ := hq
  obtain rfl := sI e0q
  obtain rfl := sI e1q
  obtain rfl := sI e2q
  obtain rfl := sI e3q
  conv => arg 2; whnf
  obtain ⟨ts, hts, ht0, ht1, ht2⟩ := info_parts infoStr
  subst hbl
  have a0 := cellv hs.a 0 rfl
  have a1 := cellv hs.a 1 rfl
  have a2 := cellv hs.a 2 rfl
  have a3 := cellv hs.a 3 rfl
  have al := lt_heap hs.a
  have HS := Lib.hid hs
  clear hs
  go_region_law ((refine step_append_grows (by rfl) (.tmp 33) (.tmp 36) 22 (by rfl) 9 ts (.string ⟨#[]⟩) 1 16 Tryd.underlying22 hts ht0 ht1 ht2 rfl (by decide) none 0 0 [] (by rfl) ?c0 ?c1 ?c2 ⟨w.heap.size, 0, none⟩ 1 1 [.string nm] (by rfl) rfl ?c3 ?c4 ?c5 ?c6 ?c7 ?_; (case c0 => (first | (intro h; cases h; done) | exact fun _ => ⟨rfl, rfl⟩)); (case c1 => (simp)); (case c2 => (intro b9 hb9; cases hb9)); (case c3 => (exact World.news_of_block (cs := #[.string nm]) (t := 9) (fr := (0, 0)) (by first | exact heap_drew (heap_alloc_new w _) | exact heap_alloc_new w _ | exact heap_alloc_new w.drew _))); (case c4 => (intro u hu; simp at hu; subst hu; rfl)); (case c5 => omega); (case c6 => (unfold maxLen; omega)); (case c7 => omega); intro v' w2 hown hgrow; have HOWN := Lib.hid hown; have HGROW := Lib.hid hgrow; clear hown hgrow))
  all_goals go_wp2_with fail
  all_goals exact hN _ _ _ (id ⟨rfl, rfl, rfl, rfl, rfl, rfl, trivial⟩) (by simpa using HOWN.out) (by first | exact ⟨HGROW.out.os, HGROW.out.tape, HGROW.out.output, by have := HGROW.out.size; simp at this; omega, fun k hk => (HGROW.out.block k (by simp; omega) (by simp)).trans (by first | exact heap_drew (heap_old hk rfl) | exact heap_old hk rfl)⟩)
noncomputable def c_cn_r9 : Code := sub [1, 1, 1, 0] (Tryd.f59.body.getD .skip)
set_option maxRecDepth 1000000 in
set_option maxHeartbeats 16000000 in
theorem cn_r9_wp {Q : Exit → Act → World → Prop} {bl bw m e : Nat} {D : Option Addr} {l : List ByteArray} {v0 v : Value} {wo w : World} {kd : Int} {nm : ByteArray} {A B : Option Addr} {n1 c1 n2 c2 : Nat} (hs : KS wo w bl v0 kd nm A n1 c1 B n2 c2 v l) (hN : ∀ a', Frm 50 [(1, (.slice D m e)), (2, .pointer (some ⟨bl, 0, none⟩)), (3, .pointer (some ⟨bw, 0, none⟩)), (4, .pointer (some ⟨wo.heap.size, 0, none⟩)), (39, .slice B n2 c2), (40, .int .i64 (n2 : Nat)), (41, .int .i64 (0 : Nat))] a' → Q .normal a' w) : ∀ ac, Frm 50 [(1, (.slice D m e)), (2, .pointer (some ⟨bl, 0, none⟩)), (3, .pointer (some ⟨bw, 0, none⟩)), (4, .pointer (some ⟨wo.heap.size, 0, none⟩))] ac → Code.wp Tryd.prog c_cn_r9 Q ac w := by
  refine frm_open ?_
  refine frame_cn ?_
  intros
  rename_i hq
  obtain ⟨-, -, e0q, e1q, e2q, e3q, -⟩ := hq
  obtain rfl := sI e0q
  obtain rfl := sI e1q
  obtain rfl := sI e2q
  obtain rfl := sI e3q
  conv => arg 2; whnf
  have a0 := cellv hs.a 0 rfl
  have a1 := cellv hs.a 1 rfl
  have a2 := cellv hs.a 2 rfl
  have a3 := cellv hs.a 3 rfl
  have al := lt_heap hs.a
  have HS := Lib.hid hs
  clear hs
  have HN := Lib.hid hN
  clear hN
  go_wp2_with fail
  exact HN.out _ (id ⟨rfl, rfl, rfl, rfl, rfl, rfl, rfl, rfl, rfl, trivial⟩)
noncomputable def c_cn_r10 : Code := sub [1, 1, 1, 1, 0, 0, 0] (Tryd.f59.body.getD .skip)
set_option maxRecDepth 1000000 in
set_option maxHeartbeats 16000000 in
theorem cn_r10_wp {Q : Exit → Act → World → Prop} {i bl bw m e : Nat} {D : Option Addr} {wo w : World} {B : Option Addr} {n2 c2 : Nat} (hN : ∀ a', Frm 50 [(1, (.slice D m e)), (2, .pointer (some ⟨bl, 0, none⟩)), (3, .pointer (some ⟨bw, 0, none⟩)), (4, .pointer (some ⟨wo.heap.size, 0, none⟩)), (39, .slice B n2 c2), (40, .int .i64 (n2 : Nat)), (41, .int .i64 (i : Nat)), (42, .bool (decide (i < n2)))] a' → Q .normal a' w) : ∀ ac, Frm 50 [(1, (.slice D m e)), (2, .pointer (some ⟨bl, 0, none⟩)), (3, .pointer (some ⟨bw, 0, none⟩)), (4, .pointer (some ⟨wo.heap.size, 0, none⟩)), (39, .slice B n2 c2), (40, .int .i64 (n2 : Nat)), (41, .int .i64 (i : Nat))] ac → Code.wp Tryd.prog c_cn_r10 Q ac w := by
  refine frm_open ?_
  refine frame_cn ?_
  intros
  rename_i hq
  obtain ⟨-, -, e0q, e1q, e2q, e3q, e4q, e5q, e6q, -⟩ := hq
  obtain rfl := sI e0q
  obtain rfl := sI e1q
  obtain rfl := sI e2q
  obtain rfl := sI e3q
  obtain rfl := sI e4q
  obtain rfl := sI e5q
  obtain rfl := sI e6q
  conv => arg 2; whnf
  by_cases h : i < n2
  · have t1 : decide ((i : Int) < (n2 : Int)) = true := decide_eq_true (by omega)
    have t2 : decide (i < n2) = true := decide_eq_true h
    rw [t2] at hN
    clear h
    have HN := Lib.hid hN
    clear hN
    go_wp2_with fail
    exact HN.out _ (id ⟨rfl, rfl, rfl, rfl, rfl, rfl, rfl, rfl, rfl, rfl, trivial⟩)
  · have t1 : decide ((i : Int) < (n2 : Int)) = false := decide_eq_false (by omega)
    have t2 : decide (i < n2) = false := decide_eq_false h
    rw [t2] at hN
    clear h
    have HN := Lib.hid hN
    clear hN
    go_wp2_with fail
    exact HN.out _ (id ⟨rfl, rfl, rfl, rfl, rfl, rfl, rfl, rfl, rfl, rfl, trivial⟩)
noncomputable def c_cn_r11 : Code := sub [1, 1, 1, 1, 0, 0, 1, 1, 0, 0, 0] (Tryd.f59.body.getD .skip)
set_option maxRecDepth 1000000 in
set_option maxHeartbeats 16000000 in
theorem cn_r11_wp {Q : Exit → Act → World → Prop} {b o : Nat} {i bl bw m e : Nat} {D : Option Addr} {wo w : World} {ke : Int} {ne : ByteArray} {Ae Be : Option Addr} {n3 c3 n4 c4 : Nat} {n2 c2 : Nat} (hi : i < n2) (h0 : w.cell? ⟨b, o + i * 4, none⟩ = some (.int .i64 ke)) (h1 : w.cell? ⟨b, o + i * 4 + 1, none⟩ = some (.string ne)) (h2 : w.cell? ⟨b, o + i * 4 + 2, none⟩ = some (.slice Ae n3 c3)) (h3 : w.cell? ⟨b, o + i * 4 + 3, none⟩ = some (.slice Be n4 c4)) (hbl : b < w.heap.size) (hN : ∀ a', Frm 50 [(1, (.slice D m e)), (2, .pointer (some ⟨bl, 0, none⟩)), (3, .pointer (some ⟨bw, 0, none⟩)), (4, .pointer (some ⟨wo.heap.size, 0, none⟩)), (39, .slice (some ⟨b, o, none⟩) n2 c2), (40, .int .i64 (n2 : Nat)), (41, .int .i64 (i : Nat)), (9, .pointer (some ⟨w.heap.size, 0, none⟩))] a' → Q .normal a' (w.alloc (.cells #[.int .i64 ke, .string ne, .slice Ae n3 c3, .slice Be n4 c4] 25))) : ∀ ac, Frm 50 [(1, (.slice D m e)), (2, .pointer (some ⟨bl, 0, none⟩)), (3, .pointer (some ⟨bw, 0, none⟩)), (4, .pointer (some ⟨wo.heap.size, 0, none⟩)), (39, .slice (some ⟨b, o, none⟩) n2 c2), (40, .int .i64 (n2 : Nat)), (41, .int .i64 (i : Nat))] ac → Code.wp Tryd.prog c_cn_r11 Q ac w := by
  refine frm_open ?_
  refine frame_cn ?_
  intros
  rename_i hq
  obtain ⟨-, -, e0q, e1q, e2q, e3q, e4q, e5q, e6q, -⟩ := hq
  obtain rfl := sI e0q
  obtain rfl := sI e1q
  obtain rfl := sI e2q
  obtain rfl := sI e3q
  obtain rfl := sI e4q
  obtain rfl := sI e5q
  obtain rfl := sI e6q
  conv => arg 2; whnf
  have q0 : (0 : Int) ≤ (i : Int) := by omega
  have q1 : (i : Int) < (n2 : Int) := by omega
  have HN := Lib.hid hN
  clear hN
  go_wp2_with fail
  exact HN.out _ (id ⟨rfl, rfl, rfl, rfl, rfl, rfl, rfl, rfl, rfl, rfl, trivial⟩)
noncomputable def c_cn_r12 : Code := sub [1, 1, 1, 1, 0, 0, 1, 1, 0, 0, 1] (Tryd.f59.body.getD .skip)
set_option maxRecDepth 1000000 in
set_option maxHeartbeats 16000000 in
theorem cn_r12_wp {Q : Exit → Act → World → Prop} {i ge bl bw m e : Nat} {D : Option Addr} {wo w : World} {PP : World → Prop} {ke : Int} {ne : ByteArray} {Ae Be : Option Addr} {n3 c3 n4 c4 : Nat} {B : Option Addr} {n2 c2 : Nat} (hf : w.heap[bw]? = some (.cells #[.func (Fn.func 59) #[] #[.pointer (some ⟨bl, 0, none⟩), .pointer (some ⟨bw, 0, none⟩)]] 91 (0, 0))) (hge : w.heap[ge]? = some (.cells #[.int .i64 ke, .string ne, .slice Ae n3 c3, .slice Be n4 c4] 25 (0, 0))) (hcall : Calls Tryd.prog 59 #[.agg #[.int .i64 ke, .string ne, .slice Ae n3 c3, .slice Be n4 c4], (.slice D m e), .pointer (some ⟨bl, 0, none⟩), .pointer (some ⟨bw, 0, none⟩)] w fun e w' => e = .returned (.tuple #[]) ∧ PP w') (hN : ∀ a' w', Frm 50 [(1, (.slice D m e)), (2, .pointer (some ⟨bl, 0, none⟩)), (3, .pointer (some ⟨bw, 0, none⟩)), (4, .pointer (some ⟨wo.heap.size, 0, none⟩)), (39, .slice B n2 c2), (40, .int .i64 (n2 : Nat)), (41, .int .i64 (i : Nat))] a' → PP w' → Q .normal a' w') : ∀ ac, Frm 50 [(1, (.slice D m e)), (2, .pointer (some ⟨bl, 0, none⟩)), (3, .pointer (some ⟨bw, 0, none⟩)), (4, .pointer (some ⟨wo.heap.size, 0, none⟩)), (39, .slice B n2 c2), (40, .int .i64 (n2 : Nat)), (41, .int .i64 (i : Nat)), (9, .pointer (some ⟨ge, 0, none⟩))] ac → Code.wp Tryd.prog c_cn_r12 Q ac w := by
  refine frm_open ?_
  refine frame_cn ?_
  intros
  rename_i hq
  obtain ⟨-, -, e0q, e1q, e2q, e3q, e4q, e5q, e6q, e7q, -⟩ := hq
  obtain rfl := sI e0q
  obtain rfl := sI e1q
  obtain rfl := sI e2q
  obtain rfl := sI e3q
  obtain rfl := sI e4q
  obtain rfl := sI e5q
  obtain rfl := sI e6q
  obtain rfl := sI e7q
  conv => arg 2; whnf
  have f0 := cellv hf 0 rfl
  have fl := lt_heap hf
  have e0 := cellv hge 0 rfl
  have e1 := cellv hge 1 rfl
  have e2 := cellv hge 2 rfl
  have e3 := cellv hge 3 rfl
  have el := lt_heap hge
  clear hf hge
  have HN := Lib.hid hN
  have HCALL := Lib.hid hcall
  clear hN hcall
  go_wp2_with fail
  (with_reducible refine HCALL.out.mono ?_)
  rintro e w1 ⟨rfl, hc1⟩
  have HC1 := Lib.hid hc1
  clear hc1
  go_wp2_with fail
  exact HN.out _ _ (id ⟨rfl, rfl, rfl, rfl, rfl, rfl, rfl, rfl, rfl, trivial⟩) HC1.out
noncomputable def c_cn_r13 : Code := sub [1, 1, 1, 1, 0, 0, 1, 1, 1] (Tryd.f59.body.getD .skip)
set_option maxRecDepth 1000000 in
set_option maxHeartbeats 16000000 in
theorem cn_r13_wp {Q : Exit → Act → World → Prop} {i bl bw m e : Nat} {D : Option Addr} {wo w : World} {B : Option Addr} {n2 c2 : Nat} (hi : i < n2) (hlim : n2 ≤ maxLen) (hN : ∀ a', Frm 50 [(1, (.slice D m e)), (2, .pointer (some ⟨bl, 0, none⟩)), (3, .pointer (some ⟨bw, 0, none⟩)), (4, .pointer (some ⟨wo.heap.size, 0, none⟩)), (39, .slice B n2 c2), (40, .int .i64 (n2 : Nat)), (41, .int .i64 (i + 1 : Nat))] a' → Q .normal a' w) : ∀ ac, Frm 50 [(1, (.slice D m e)), (2, .pointer (some ⟨bl, 0, none⟩)), (3, .pointer (some ⟨bw, 0, none⟩)), (4, .pointer (some ⟨wo.heap.size, 0, none⟩)), (39, .slice B n2 c2), (40, .int .i64 (n2 : Nat)), (41, .int .i64 (i : Nat))] ac → Code.wp Tryd.prog c_cn_r13 Q ac w := by
  refine frm_open ?_
  refine frame_cn ?_
  intros
  rename_i hq
  obtain ⟨-, -, e0q, e1q, e2q, e3q, e4q, e5q, e6q, -⟩ := hq
  obtain rfl := sI e0q
  obtain rfl := sI e1q
  obtain rfl := sI e2q
  obtain rfl := sI e3q
  obtain rfl := sI e4q
  obtain rfl := sI e5q
  obtain rfl := sI e6q
  conv => arg 2; whnf
  have hi4 : (i : Int) ≤ 9223372036854775806 := by unfold maxLen at hlim; omega
  have HN := Lib.hid hN
  clear hN
  go_wp2_with fail
  exact HN.out _ (id ⟨rfl, rfl, rfl, rfl, rfl, rfl, rfl, rfl, rfl, trivial⟩)

end Go.Proofs.YtdofemkfmkopcaaDoor
