/-
  The reference's OpenFault: its regions, by parts.
-/
import Derived.Test.YtdofemkfmkopcaaDoorCkA
import Derived.Test.YtdofemkfmkopcaaDoorStack
import Derived.Test.YtdofemkfmkopcaaDoorName
import Derived.Deep.RegionHeld3
import Derived.Deep.RegionLaw
import Derived.Deep.AppendLies
namespace Go.Proofs.YtdofemkfmkopcaaDoor
open Go Go.RowKit
set_option linter.unusedSimpArgs false
set_option linter.unusedVariables false

set_option maxRecDepth 1000000 in
theorem frame_of {P : Act → Prop} (h : ∀ x0 x1 x2 x3 x4 x5 x6 x7 x8 x9 x10 x11 x12 x13 x14 x15 x16 x17 x18 x19 x20 x21 x22 x23 x24 x25 x26 x27 x28 x29 x30 x31 x32 x33 x34 x35 x36 x37 x38 x39 x40 x41 x42 x43 x44 x45 x46 x47 x48 x49 x50 x51 x52 x53 x54 x55 x56 x57 x58 x59 x60 x61 x62 x63 x64 x65 x66 x67 x68 x69 x70 x71 x72 x73 x74 x75 x76 x77 x78 x79 x80 x81 x82 x83 x84 x85 x86 x87 x88 x89 x90 x91 x92 x93 x94 x95 x96 x97 x98 x99 x100 x101 x102 x103 x104 x105 x106 x107 x108 x109 x110 x111 x112 x113 x114 x115 x116 x117 x118 x119 x120 x121 x122 x123 x124 x125 x126 x127 x128 x129 x130 x131 x132 x133 x134 x135 x136 x137 x138 x139 x140 x141 x142 x143 x144 x145 x146 x147 x148 x149 : Value, P ⟨(x0 :: x1 :: x2 :: x3 :: x4 :: x5 :: x6 :: x7 :: x8 :: x9 :: x10 :: x11 :: x12 :: x13 :: x14 :: x15 :: x16 :: x17 :: x18 :: x19 :: x20 :: x21 :: x22 :: x23 :: x24 :: x25 :: x26 :: x27 :: x28 :: x29 :: x30 :: x31 :: x32 :: x33 :: x34 :: x35 :: x36 :: x37 :: x38 :: x39 :: x40 :: x41 :: x42 :: x43 :: x44 :: x45 :: x46 :: x47 :: x48 :: x49 :: x50 :: x51 :: x52 :: x53 :: x54 :: x55 :: x56 :: x57 :: x58 :: x59 :: x60 :: x61 :: x62 :: x63 :: x64 :: x65 :: x66 :: x67 :: x68 :: x69 :: x70 :: x71 :: x72 :: x73 :: x74 :: x75 :: x76 :: x77 :: x78 :: x79 :: x80 :: x81 :: x82 :: x83 :: x84 :: x85 :: x86 :: x87 :: x88 :: x89 :: x90 :: x91 :: x92 :: x93 :: x94 :: x95 :: x96 :: x97 :: x98 :: x99 :: x100 :: x101 :: x102 :: x103 :: x104 :: x105 :: x106 :: x107 :: x108 :: x109 :: x110 :: x111 :: x112 :: x113 :: x114 :: x115 :: x116 :: x117 :: x118 :: x119 :: x120 :: x121 :: x122 :: x123 :: x124 :: x125 :: x126 :: x127 :: x128 :: x129 :: x130 :: x131 :: x132 :: x133 :: x134 :: x135 :: x136 :: x137 :: x138 :: x139 :: x140 :: x141 :: x142 :: x143 :: x144 :: x145 :: x146 :: x147 :: x148 :: x149 :: []).toArray, []⟩) : ∀ a : Act, a.tmps.toList.length = 150 → a.defers = [] → P a := by
  rintro ⟨⟨l⟩, d⟩ hs hd
  simp only at hd
  subst hd
  revert l
  show ∀ l : List Value, l.length = 150 → P ⟨⟨l⟩, []⟩
  refine openS (n := 149) (fun x0 => ?_)
  refine openS (n := 148) (fun x1 => ?_)
  refine openS (n := 147) (fun x2 => ?_)
  refine openS (n := 146) (fun x3 => ?_)
  refine openS (n := 145) (fun x4 => ?_)
  refine openS (n := 144) (fun x5 => ?_)
  refine openS (n := 143) (fun x6 => ?_)
  refine openS (n := 142) (fun x7 => ?_)
  refine openS (n := 141) (fun x8 => ?_)
  refine openS (n := 140) (fun x9 => ?_)
  refine openS (n := 139) (fun x10 => ?_)
  refine openS (n := 138) (fun x11 => ?_)
  refine openS (n := 137) (fun x12 => ?_)
  refine openS (n := 136) (fun x13 => ?_)
  refine openS (n := 135) (fun x14 => ?_)
  refine openS (n := 134) (fun x15 => ?_)
  refine openS (n := 133) (fun x16 => ?_)
  refine openS (n := 132) (fun x17 => ?_)
  refine openS (n := 131) (fun x18 => ?_)
  refine openS (n := 130) (fun x19 => ?_)
  refine openS (n := 129) (fun x20 => ?_)
  refine openS (n := 128) (fun x21 => ?_)
  refine openS (n := 127) (fun x22 => ?_)
  refine openS (n := 126) (fun x23 => ?_)
  refine openS (n := 125) (fun x24 => ?_)
  refine openS (n := 124) (fun x25 => ?_)
  refine openS (n := 123) (fun x26 => ?_)
  refine openS (n := 122) (fun x27 => ?_)
  refine openS (n := 121) (fun x28 => ?_)
  refine openS (n := 120) (fun x29 => ?_)
  refine openS (n := 119) (fun x30 => ?_)
  refine openS (n := 118) (fun x31 => ?_)
  refine openS (n := 117) (fun x32 => ?_)
  refine openS (n := 116) (fun x33 => ?_)
  refine openS (n := 115) (fun x34 => ?_)
  refine openS (n := 114) (fun x35 => ?_)
  refine openS (n := 113) (fun x36 => ?_)
  refine openS (n := 112) (fun x37 => ?_)
  refine openS (n := 111) (fun x38 => ?_)
  refine openS (n := 110) (fun x39 => ?_)
  refine openS (n := 109) (fun x40 => ?_)
  refine openS (n := 108) (fun x41 => ?_)
  refine openS (n := 107) (fun x42 => ?_)
  refine openS (n := 106) (fun x43 => ?_)
  refine openS (n := 105) (fun x44 => ?_)
  refine openS (n := 104) (fun x45 => ?_)
  refine openS (n := 103) (fun x46 => ?_)
  refine openS (n := 102) (fun x47 => ?_)
  refine openS (n := 101) (fun x48 => ?_)
  refine openS (n := 100) (fun x49 => ?_)
  refine openS (n := 99) (fun x50 => ?_)
  refine openS (n := 98) (fun x51 => ?_)
  refine openS (n := 97) (fun x52 => ?_)
  refine openS (n := 96) (fun x53 => ?_)
  refine openS (n := 95) (fun x54 => ?_)
  refine openS (n := 94) (fun x55 => ?_)
  refine openS (n := 93) (fun x56 => ?_)
  refine openS (n := 92) (fun x57 => ?_)
  refine openS (n := 91) (fun x58 => ?_)
  refine openS (n := 90) (fun x59 => ?_)
  refine openS (n := 89) (fun x60 => ?_)
  refine openS (n := 88) (fun x61 => ?_)
  refine openS (n := 87) (fun x62 => ?_)
  refine openS (n := 86) (fun x63 => ?_)
  refine openS (n := 85) (fun x64 => ?_)
  refine openS (n := 84) (fun x65 => ?_)
  refine openS (n := 83) (fun x66 => ?_)
  refine openS (n := 82) (fun x67 => ?_)
  refine openS (n := 81) (fun x68 => ?_)
  refine openS (n := 80) (fun x69 => ?_)
  refine openS (n := 79) (fun x70 => ?_)
  refine openS (n := 78) (fun x71 => ?_)
  refine openS (n := 77) (fun x72 => ?_)
  refine openS (n := 76) (fun x73 => ?_)
  refine openS (n := 75) (fun x74 => ?_)
  refine openS (n := 74) (fun x75 => ?_)
  refine openS (n := 73) (fun x76 => ?_)
  refine openS (n := 72) (fun x77 => ?_)
  refine openS (n := 71) (fun x78 => ?_)
  refine openS (n := 70) (fun x79 => ?_)
  refine openS (n := 69) (fun x80 => ?_)
  refine openS (n := 68) (fun x81 => ?_)
  refine openS (n := 67) (fun x82 => ?_)
  refine openS (n := 66) (fun x83 => ?_)
  refine openS (n := 65) (fun x84 => ?_)
  refine openS (n := 64) (fun x85 => ?_)
  refine openS (n := 63) (fun x86 => ?_)
  refine openS (n := 62) (fun x87 => ?_)
  refine openS (n := 61) (fun x88 => ?_)
  refine openS (n := 60) (fun x89 => ?_)
  refine openS (n := 59) (fun x90 => ?_)
  refine openS (n := 58) (fun x91 => ?_)
  refine openS (n := 57) (fun x92 => ?_)
  refine openS (n := 56) (fun x93 => ?_)
  refine openS (n := 55) (fun x94 => ?_)
  refine openS (n := 54) (fun x95 => ?_)
  refine openS (n := 53) (fun x96 => ?_)
  refine openS (n := 52) (fun x97 => ?_)
  refine openS (n := 51) (fun x98 => ?_)
  refine openS (n := 50) (fun x99 => ?_)
  refine openS (n := 49) (fun x100 => ?_)
  refine openS (n := 48) (fun x101 => ?_)
  refine openS (n := 47) (fun x102 => ?_)
  refine openS (n := 46) (fun x103 => ?_)
  refine openS (n := 45) (fun x104 => ?_)
  refine openS (n := 44) (fun x105 => ?_)
  refine openS (n := 43) (fun x106 => ?_)
  refine openS (n := 42) (fun x107 => ?_)
  refine openS (n := 41) (fun x108 => ?_)
  refine openS (n := 40) (fun x109 => ?_)
  refine openS (n := 39) (fun x110 => ?_)
  refine openS (n := 38) (fun x111 => ?_)
  refine openS (n := 37) (fun x112 => ?_)
  refine openS (n := 36) (fun x113 => ?_)
  refine openS (n := 35) (fun x114 => ?_)
  refine openS (n := 34) (fun x115 => ?_)
  refine openS (n := 33) (fun x116 => ?_)
  refine openS (n := 32) (fun x117 => ?_)
  refine openS (n := 31) (fun x118 => ?_)
  refine openS (n := 30) (fun x119 => ?_)
  refine openS (n := 29) (fun x120 => ?_)
  refine openS (n := 28) (fun x121 => ?_)
  refine openS (n := 27) (fun x122 => ?_)
  refine openS (n := 26) (fun x123 => ?_)
  refine openS (n := 25) (fun x124 => ?_)
  refine openS (n := 24) (fun x125 => ?_)
  refine openS (n := 23) (fun x126 => ?_)
  refine openS (n := 22) (fun x127 => ?_)
  refine openS (n := 21) (fun x128 => ?_)
  refine openS (n := 20) (fun x129 => ?_)
  refine openS (n := 19) (fun x130 => ?_)
  refine openS (n := 18) (fun x131 => ?_)
  refine openS (n := 17) (fun x132 => ?_)
  refine openS (n := 16) (fun x133 => ?_)
  refine openS (n := 15) (fun x134 => ?_)
  refine openS (n := 14) (fun x135 => ?_)
  refine openS (n := 13) (fun x136 => ?_)
  refine openS (n := 12) (fun x137 => ?_)
  refine openS (n := 11) (fun x138 => ?_)
  refine openS (n := 10) (fun x139 => ?_)
  refine openS (n := 9) (fun x140 => ?_)
  refine openS (n := 8) (fun x141 => ?_)
  refine openS (n := 7) (fun x142 => ?_)
  refine openS (n := 6) (fun x143 => ?_)
  refine openS (n := 5) (fun x144 => ?_)
  refine openS (n := 4) (fun x145 => ?_)
  refine openS (n := 3) (fun x146 => ?_)
  refine openS (n := 2) (fun x147 => ?_)
  refine openS (n := 1) (fun x148 => ?_)
  refine openS (n := 0) (fun x149 => ?_)
  refine open0 ?_
  exact h x0 x1 x2 x3 x4 x5 x6 x7 x8 x9 x10 x11 x12 x13 x14 x15 x16 x17 x18 x19 x20 x21 x22 x23 x24 x25 x26 x27 x28 x29 x30 x31 x32 x33 x34 x35 x36 x37 x38 x39 x40 x41 x42 x43 x44 x45 x46 x47 x48 x49 x50 x51 x52 x53 x54 x55 x56 x57 x58 x59 x60 x61 x62 x63 x64 x65 x66 x67 x68 x69 x70 x71 x72 x73 x74 x75 x76 x77 x78 x79 x80 x81 x82 x83 x84 x85 x86 x87 x88 x89 x90 x91 x92 x93 x94 x95 x96 x97 x98 x99 x100 x101 x102 x103 x104 x105 x106 x107 x108 x109 x110 x111 x112 x113 x114 x115 x116 x117 x118 x119 x120 x121 x122 x123 x124 x125 x126 x127 x128 x129 x130 x131 x132 x133 x134 x135 x136 x137 x138 x139 x140 x141 x142 x143 x144 x145 x146 x147 x148 x149
/-- A formula that is still to be visited, its depth. -/
structure FmAt where
  t : Fm
  d : Nat
/-- What the visit of a stack (its top first) finds, when n nodes have been counted. -/
def fmStack (hole : Bool) : List FmAt → Nat → Nat × Nat
  | [], _ => (0, 0)
  | x :: r, n => if (fmVal hole x.t x.d n).1 = 0 then fmStack hole r (fmVal hole x.t x.d n).2.2 else ((fmVal hole x.t x.d n).1, (fmVal hole x.t x.d n).2.1)
theorem fmStack_vals (hole : Bool) : ∀ (l : List Fm) (d n : Nat) (r : List FmAt), fmStack hole (l.map (fun t => ⟨t, d⟩) ++ r) n = if (fmVals hole l d n).1 = 0 then fmStack hole r (fmVals hole l d n).2.2 else ((fmVals hole l d n).1, (fmVals hole l d n).2.1)
  | [], d, n, r => by unfold fmVals; simp
  | t :: l, d, n, r => by
    unfold fmVals
    simp only [List.map_cons, List.cons_append, fmStack]
    by_cases h : (fmVal hole t d n).1 = 0
    · rw [if_pos h, if_pos h, fmStack_vals hole l d _ r]
    · rw [if_neg h, if_neg h, if_neg h]
theorem fmStack_step (hole : Bool) (a : FmL) (l : List Fm) (d n : Nat) (r : List FmAt) :
    fmStack hole (⟨.mk a l, d⟩ :: r) n = if 200 < n + 1 ∨ 40 < d then (1, n) else if a.code hole l.length = 0 then fmStack hole (l.map (fun t => ⟨t, d + 1⟩) ++ r) (n + 1) else (a.code hole l.length, n) := by
  rw [fmStack]
  simp only
  unfold fmVal
  by_cases h : 200 < n + 1 ∨ 40 < d
  · rw [if_pos h, if_pos h]; simp
  · rw [if_neg h, if_neg h]
    by_cases h2 : a.code hole l.length = 0
    · rw [if_pos h2, if_pos h2, fmStack_vals]
    · rw [if_neg h2, if_neg h2]; simp [h2]
theorem fmStack_one (hole : Bool) (t : Fm) : fmStack hole [⟨t, 1⟩] 0 = ((fmVal hole t 1 0).1, (fmVal hole t 1 0).2.1) := by
  simp only [fmStack]
  by_cases h : (fmVal hole t 1 0).1 = 0
  · rw [if_pos h, h, ((fmVal_le hole t 1 0 (by omega)).2 h).2]
  · rw [if_neg h]
def fmAtRep : Rep FmAt where
  size := 5
  R w S x cs := ∃ ks, cs = ks ++ [.int .i64 (x.d : Nat)] ∧ fmRep.R w S x.t ks
  pos := by omega
  len := by rintro w S a cs ⟨ks, rfl, h⟩; simp [fmRep.len h]; rfl
  one := by
    rintro w S a cs ⟨ks, rfl, h⟩ u hu
    rcases List.mem_append.1 hu with hu | hu
    · exact fmRep.one h u hu
    · simp at hu; subst hu; rfl
  keep := by
    rintro w w' S S' a cs ⟨ks, rfl, h⟩ hk hS
    exact ⟨ks, rfl, fmRep.keep h hk hS⟩
theorem infoFormAt : (Tryd.prog.info? 88).map (fun i => (i.zero, i.size, i.bytes)) = some (some (.agg #[.int .i64 0, .string ⟨#[]⟩, .slice none 0 0, .slice none 0 0, .int .i64 0]), 5, 80) := by kernel_rfl
/-- In a round of OpenFault's loop: the formula that is visited, the stack. -/
structure RD (S : Nat → Prop) (wo w : World) (v : Value) (L : List FmAt) (gx gg : Nat) (kd : Int) (nm : ByteArray) (A : Option Addr) (n1 c1 : Nat) (B : Option Addr) (n2 c2 : Nat) (d : Nat) : Prop where
  x : w.heap[gx]? = some (.cells #[.int .i64 kd, .string nm, .slice A n1 c1, .slice B n2 c2, .int .i64 (d : Nat)] 88 (0, 0))
  g : w.heap[gg]? = some (.cells #[.int .i64 kd, .string nm, .slice A n1 c1, .slice B n2 c2] 25 (0, 0))
  r : w.heap[wo.heap.size + 1]? = some (.cells #[.int .i64 0, .int .i64 0] 27 (0, 0))
  own : fmAtRep.Own 88 (wo.heap.size + 2) w S v L
  b : Below wo.heap.size wo w
  lx : wo.heap.size + 2 ≤ gx
  lg : wo.heap.size + 2 ≤ gg
  nx : v.ownBlock ≠ some gx
  ng : v.ownBlock ≠ some gg
theorem RD.below {S : Nat → Prop} {gx gg d : Nat} {v : Value} {L : List FmAt} {wo w : World} {kd : Int} {nm : ByteArray} {A B : Option Addr} {n1 c1 n2 c2 : Nat} {w' : World} (h : RD S wo w v L gx gg kd nm A n1 c1 B n2 c2 d) (hS : ∀ b, S b → b < wo.heap.size) (hb : Below w.heap.size w w') : RD S wo w' v L gx gg kd nm A n1 c1 B n2 c2 d :=
  ⟨(hb.block _ (lt_heap h.x)).trans h.x, (hb.block _ (lt_heap h.g)).trans h.g, (hb.block _ (lt_heap h.r)).trans h.r, h.own.below hb (fun b hh => by have := hS b hh; have := h.b.size; omega), h.b.trans (hb.mono h.b.size), h.lx, h.lg, h.nx, h.ng⟩
theorem RD.step {S : Nat → Prop} {gx gg d : Nat} {v : Value} {L : List FmAt} {wo w : World} {kd : Int} {nm : ByteArray} {A B : Option Addr} {n1 c1 n2 c2 : Nat} {w' : World} {v' : Value} {L' : List FmAt} (h : RD S wo w v L gx gg kd nm A n1 c1 B n2 c2 d) (ho : fmAtRep.Own 88 (wo.heap.size + 2) w' S v' L') (hg : w.grownBy w' v.ownBlock) (hat : ∀ k, v'.ownBlock = some k → v.ownBlock = some k ∨ w.heap.size ≤ k) : RD S wo w' v' L' gx gg kd nm A n1 c1 B n2 c2 d := by
  have hbk := h.own.block
  have hx := lt_heap h.x
  have hg1 := lt_heap h.g
  have hr := lt_heap h.r
  have keep : ∀ k, k < w.heap.size → v.ownBlock ≠ some k → w'.heap[k]? = w.heap[k]? := fun k h1 h2 => hg.block k h1 (fun e => h2 e.symm)
  refine ⟨(keep _ hx h.nx).trans h.x, (keep _ hg1 h.ng).trans h.g, (keep _ hr (fun e => by have := hbk _ e; omega)).trans h.r, ho, h.b.trans ⟨hg.os, hg.tape, hg.output, hg.size, fun k hk => keep k (by have := h.b.size; omega) (fun e => by have := hbk _ e; omega)⟩, h.lx, h.lg, fun e => ?_, fun e => ?_⟩
  · rcases hat _ e with e | e
    · exact h.nx e
    · omega
  · rcases hat _ e with e | e
    · exact h.ng e
    · omega
set_option maxRecDepth 100000 in
set_option maxHeartbeats 4000000 in
theorem refSubs_any (k : Int) (w : World) : Calls Tryd.prog 58 #[.int .i64 k] w fun e w' => e = .returned (.int .i64 (subsI false k)) ∧ Below w.heap.size w w' := by
  have key : ∀ r : Int, subsI false k = r → Hid (∀ w : World, Calls Tryd.prog 58 #[.int .i64 k] w fun e w' => e = .returned (.int .i64 r) ∧ Below w.heap.size w w') → Calls Tryd.prog 58 #[.int .i64 k] w fun e w' => e = .returned (.int .i64 (subsI false k)) ∧ Below w.heap.size w w' := fun r e h => by rw [e]; exact h.out w
  by_cases k1 : k = 1
  · subst k1
    refine key 0 rfl (Lib.hid (fun w => ?_))
    go_enter Tryd.func58, Tryd.ntmps58
    go_wp2_with fail
    go_returns
    exact ⟨rfl, by go_grown⟩
  by_cases k2 : k = 2
  · subst k2
    refine key 0 rfl (Lib.hid (fun w => ?_))
    go_enter Tryd.func58, Tryd.ntmps58
    go_wp2_with fail
    go_returns
    exact ⟨rfl, by go_grown⟩
  by_cases k3 : k = 3
  · subst k3
    refine key 0 rfl (Lib.hid (fun w => ?_))
    go_enter Tryd.func58, Tryd.ntmps58
    go_wp2_with fail
    go_returns
    exact ⟨rfl, by go_grown⟩
  by_cases k4 : k = 4
  · subst k4
    refine key 1 rfl (Lib.hid (fun w => ?_))
    go_enter Tryd.func58, Tryd.ntmps58
    go_wp2_with fail
    go_returns
    exact ⟨rfl, by go_grown⟩
  by_cases k5 : k = 5
  · subst k5
    refine key 2 rfl (Lib.hid (fun w => ?_))
    go_enter Tryd.func58, Tryd.ntmps58
    go_wp2_with fail
    go_returns
    exact ⟨rfl, by go_grown⟩
  by_cases k6 : k = 6
  · subst k6
    refine key 2 rfl (Lib.hid (fun w => ?_))
    go_enter Tryd.func58, Tryd.ntmps58
    go_wp2_with fail
    go_returns
    exact ⟨rfl, by go_grown⟩
  by_cases k7 : k = 7
  · subst k7
    refine key 2 rfl (Lib.hid (fun w => ?_))
    go_enter Tryd.func58, Tryd.ntmps58
    go_wp2_with fail
    go_returns
    exact ⟨rfl, by go_grown⟩
  by_cases k8 : k = 8
  · subst k8
    refine key 1 rfl (Lib.hid (fun w => ?_))
    go_enter Tryd.func58, Tryd.ntmps58
    go_wp2_with fail
    go_returns
    exact ⟨rfl, by go_grown⟩
  by_cases k9 : k = 9
  · subst k9
    refine key 1 rfl (Lib.hid (fun w => ?_))
    go_enter Tryd.func58, Tryd.ntmps58
    go_wp2_with fail
    go_returns
    exact ⟨rfl, by go_grown⟩
  have hr : subsI false k = -1 := by unfold subsI subsF; rw [if_neg (by omega), if_neg (by omega), if_neg (by omega), if_neg (by rintro ⟨_, h⟩; cases h)]
  by_cases hl : k < 1
  · refine key (-1) hr (Lib.hid (fun w => ?_))
    have t1 : decide (k < 1) = true := decide_eq_true hl
    clear key k1 k2 k3 k4 k5 k6 k7 k8 k9 hr
    go_enter Tryd.func58, Tryd.ntmps58
    go_wp2_with fail
    go_returns
    exact ⟨rfl, by go_grown⟩
  · refine key (-1) hr (Lib.hid (fun w => ?_))
    have t1 : decide (k < 1) = false := decide_eq_false hl
    have t2 : decide ((9 : Int) < k) = true := decide_eq_true (by omega)
    clear key k1 k2 k3 k4 k5 k6 k7 k8 k9 hr
    go_enter Tryd.func58, Tryd.ntmps58
    go_wp2_with fail
    go_returns
    exact ⟨rfl, by go_grown⟩
noncomputable def c_of_r0 : Code := sub [0] (Tryd.f38.body.getD .skip)
set_option maxRecDepth 1000000 in
set_option maxHeartbeats 16000000 in
theorem of_r0_wp {Q : Exit → Act → World → Prop} {hole : Bool} {wo : World} {kd : Int} {nm : ByteArray} {A B : Option Addr} {n1 c1 n2 c2 : Nat} (hN : ∀ a', Frm 150 [(1, .bool hole), (2, .pointer (some ⟨wo.heap.size, 0, none⟩)), (4, .pointer (some ⟨wo.heap.size + 1, 0, none⟩))] a' → Q .normal a' ((wo.alloc (.cells #[.int .i64 kd, .string nm, .slice A n1 c1, .slice B n2 c2] 25)).alloc (.cells #[.int .i64 0, .int .i64 0] 27))) : ∀ ac, Frm 150 [(0, .agg #[.int .i64 kd, .string nm, .slice A n1 c1, .slice B n2 c2]), (1, .bool hole)] ac → Code.wp Tryd.prog c_of_r0 Q ac wo := by
  refine frm_open ?_
  refine frame_of ?_
  intros
  rename_i hq
  obtain ⟨-, -, e0q, e1q, -⟩ := hq
  obtain rfl := sI e0q
  obtain rfl := sI e1q
  conv => arg 2; whnf
  have HN := Lib.hid hN
  clear hN
  go_wp2_with fail
  exact HN.out _ (id ⟨rfl, rfl, rfl, rfl, rfl, trivial⟩)
noncomputable def c_of_r1 : Code := sub [1, 0] (Tryd.f38.body.getD .skip)
set_option maxRecDepth 1000000 in
set_option maxHeartbeats 16000000 in
theorem of_r1_wp {Q : Exit → Act → World → Prop} {hole : Bool} {wo w : World} {kd : Int} {nm : ByteArray} {A B : Option Addr} {n1 c1 n2 c2 : Nat} (ha : w.heap[wo.heap.size]? = some (.cells #[.int .i64 kd, .string nm, .slice A n1 c1, .slice B n2 c2] 25 (0, 0))) (hN : ∀ a', Frm 150 [(1, .bool hole), (2, .pointer (some ⟨wo.heap.size, 0, none⟩)), (4, .pointer (some ⟨wo.heap.size + 1, 0, none⟩)), (5, .slice (some ⟨w.heap.size, 0, none⟩) 1 1)] a' → Q .normal a' (w.alloc (.cells #[.int .i64 kd, .string nm, .slice A n1 c1, .slice B n2 c2, .int .i64 1] 88))) : ∀ ac, Frm 150 [(1, .bool hole), (2, .pointer (some ⟨wo.heap.size, 0, none⟩)), (4, .pointer (some ⟨wo.heap.size + 1, 0, none⟩))] ac → Code.wp Tryd.prog c_of_r1 Q ac w := by
  refine frm_open ?_
  refine frame_of ?_
  intros
  rename_i hq
  obtain ⟨-, -, e0q, e1q, e2q, -⟩ := hq
  obtain rfl := sI e0q
  obtain rfl := sI e1q
  obtain rfl := sI e2q
  conv => arg 2; whnf
  have g0 := cellv ha 0 rfl
  have g1 := cellv ha 1 rfl
  have g2 := cellv ha 2 rfl
  have g3 := cellv ha 3 rfl
  have gl := lt_heap ha
  clear ha
  have HN := Lib.hid hN
  clear hN
  go_wp2_with fail
  exact HN.out _ (id ⟨rfl, rfl, rfl, rfl, rfl, rfl, trivial⟩)
noncomputable def c_of_r2 : Code := sub [1, 1, 0, 0] (Tryd.f38.body.getD .skip)
set_option maxRecDepth 1000000 in
set_option maxHeartbeats 16000000 in
theorem of_r2_wp {Q : Exit → Act → World → Prop} {hole : Bool} {v : Value} {wo w : World} (hN : ∀ a', Frm 150 [(1, .bool hole), (2, .pointer (some ⟨wo.heap.size, 0, none⟩)), (4, .pointer (some ⟨wo.heap.size + 1, 0, none⟩)), (5, v), (6, .int .i64 0)] a' → Q .normal a' w) : ∀ ac, Frm 150 [(1, .bool hole), (2, .pointer (some ⟨wo.heap.size, 0, none⟩)), (4, .pointer (some ⟨wo.heap.size + 1, 0, none⟩)), (5, v)] ac → Code.wp Tryd.prog c_of_r2 Q ac w := by
  refine frm_open ?_
  refine frame_of ?_
  intros
  rename_i hq
  obtain ⟨-, -, e0q, e1q, e2q, e3q, -⟩ := hq
  obtain rfl := sI e0q
  obtain rfl := sI e1q
  obtain rfl := sI e2q
  obtain rfl := sI e3q
  conv => arg 2; whnf
  have HN := Lib.hid hN
  clear hN
  go_wp2_with fail
  exact HN.out _ (id ⟨rfl, rfl, rfl, rfl, rfl, rfl, rfl, trivial⟩)
noncomputable def c_of_r3 : Code := sub [1, 1, 0, 1, 0, 0, 0, 0] (Tryd.f38.body.getD .skip)
set_option maxRecDepth 1000000 in
set_option maxHeartbeats 16000000 in
theorem of_r3_wp {Q : Exit → Act → World → Prop} {hole : Bool} {n k cq : Nat} {Aq : Option Addr} {wo w : World} (hN : ∀ a', Frm 150 [(1, .bool hole), (2, .pointer (some ⟨wo.heap.size, 0, none⟩)), (4, .pointer (some ⟨wo.heap.size + 1, 0, none⟩)), (5, .slice Aq k cq), (6, .int .i64 (n : Nat)), (22, .bool (decide (0 < k)))] a' → Q .normal a' w) : ∀ ac, Frm 150 [(1, .bool hole), (2, .pointer (some ⟨wo.heap.size, 0, none⟩)), (4, .pointer (some ⟨wo.heap.size + 1, 0, none⟩)), (5, .slice Aq k cq), (6, .int .i64 (n : Nat))] ac → Code.wp Tryd.prog c_of_r3 Q ac w := by
  refine frm_open ?_
  refine frame_of ?_
  intros
  rename_i hq
  obtain ⟨-, -, e0q, e1q, e2q, e3q, e4q, -⟩ := hq
  obtain rfl := sI e0q
  obtain rfl := sI e1q
  obtain rfl := sI e2q
  obtain rfl := sI e3q
  obtain rfl := sI e4q
  conv => arg 2; whnf
  by_cases h : 0 < k
  · have t1 : decide ((0 : Int) < (k : Int)) = true := by first | exact decide_eq_true (by omega) | exact beq_iff_eq.2 (by omega) | exact bne_iff_ne.2 (by omega)
    have t2 : (decide (0 < k)) = true := decide_eq_true h
    rw [t2] at hN
    clear h
    have HN := Lib.hid hN
    clear hN
    go_wp2_with fail
    exact HN.out _ (id ⟨rfl, rfl, rfl, rfl, rfl, rfl, rfl, rfl, trivial⟩)
  · have t1 : decide ((0 : Int) < (k : Int)) = false := by first | exact decide_eq_false (by omega) | exact beq_eq_false_iff_ne.2 (by omega) | exact bne_eq_false_iff_eq.2 (by omega)
    have t2 : (decide (0 < k)) = false := decide_eq_false h
    rw [t2] at hN
    clear h
    have HN := Lib.hid hN
    clear hN
    go_wp2_with fail
    exact HN.out _ (id ⟨rfl, rfl, rfl, rfl, rfl, rfl, rfl, rfl, trivial⟩)
noncomputable def c_of_r5 : Code := sub [1, 1, 0, 1, 0, 0, 1, 0, 0, 0] (Tryd.f38.body.getD .skip)
set_option maxRecDepth 1000000 in
set_option maxHeartbeats 16000000 in
theorem of_r5_wp {Q : Exit → Act → World → Prop} {hole : Bool} {n k cq gb d : Nat} {wo w : World} {kd : Int} {nm : ByteArray} {A B : Option Addr} {n1 c1 n2 c2 : Nat} (hk : k ≤ 300) (hcap : k + 1 ≤ cq) (h0 : w.cell? ⟨gb, k * 5, none⟩ = some (.int .i64 kd)) (h1 : w.cell? ⟨gb, k * 5 + 1, none⟩ = some (.string nm)) (h2 : w.cell? ⟨gb, k * 5 + 2, none⟩ = some (.slice A n1 c1)) (h3 : w.cell? ⟨gb, k * 5 + 3, none⟩ = some (.slice B n2 c2)) (h4 : w.cell? ⟨gb, k * 5 + 4, none⟩ = some (.int .i64 (d : Nat))) (hbl : gb < w.heap.size) (hN : ∀ a', Frm 150 [(1, .bool hole), (2, .pointer (some ⟨wo.heap.size, 0, none⟩)), (4, .pointer (some ⟨wo.heap.size + 1, 0, none⟩)), (5, .slice (some ⟨gb, 0, none⟩) (k + 1) cq), (6, .int .i64 (n : Nat)), (7, .pointer (some ⟨w.heap.size, 0, none⟩))] a' → Q .normal a' (w.alloc (.cells #[.int .i64 kd, .string nm, .slice A n1 c1, .slice B n2 c2, .int .i64 (d : Nat)] 88))) : ∀ ac, Frm 150 [(1, .bool hole), (2, .pointer (some ⟨wo.heap.size, 0, none⟩)), (4, .pointer (some ⟨wo.heap.size + 1, 0, none⟩)), (5, .slice (some ⟨gb, 0, none⟩) (k + 1) cq), (6, .int .i64 (n : Nat))] ac → Code.wp Tryd.prog c_of_r5 Q ac w := by
  refine frm_open ?_
  refine frame_of ?_
  intros
  rename_i hq
  obtain ⟨-, -, e0q, e1q, e2q, e3q, e4q, -⟩ := hq
  obtain rfl := sI e0q
  obtain rfl := sI e1q
  obtain rfl := sI e2q
  obtain rfl := sI e3q
  obtain rfl := sI e4q
  conv => arg 2; whnf
  have q0 : (0 : Int) ≤ (k : Int) := by omega
  have q1 : (k : Int) ≤ (cq : Int) := by omega
  have q2 : ((k + 1 : Nat) : Int) - 1 = (k : Int) := by omega
  have q3 : (k : Int) + 1 - 1 = (k : Int) := by omega
  have HN := Lib.hid hN
  clear hN
  go_wp2_with fail
  exact HN.out _ (id ⟨rfl, rfl, rfl, rfl, rfl, rfl, rfl, rfl, trivial⟩)
noncomputable def c_of_r6 : Code := sub [1, 1, 0, 1, 0, 0, 1, 0, 0, 1, 0] (Tryd.f38.body.getD .skip)
set_option maxRecDepth 1000000 in
set_option maxHeartbeats 16000000 in
theorem of_r6_wp {Q : Exit → Act → World → Prop} {hole : Bool} {n k cq gb gx : Nat} {wo w : World} (hk : k ≤ 300) (hcap : k + 1 ≤ cq) (hN : ∀ a', Frm 150 [(1, .bool hole), (2, .pointer (some ⟨wo.heap.size, 0, none⟩)), (4, .pointer (some ⟨wo.heap.size + 1, 0, none⟩)), (5, .slice (some ⟨gb, 0, none⟩) k cq), (6, .int .i64 (n : Nat)), (7, .pointer (some ⟨gx, 0, none⟩))] a' → Q .normal a' w) : ∀ ac, Frm 150 [(1, .bool hole), (2, .pointer (some ⟨wo.heap.size, 0, none⟩)), (4, .pointer (some ⟨wo.heap.size + 1, 0, none⟩)), (5, .slice (some ⟨gb, 0, none⟩) (k + 1) cq), (6, .int .i64 (n : Nat)), (7, .pointer (some ⟨gx, 0, none⟩))] ac → Code.wp Tryd.prog c_of_r6 Q ac w := by
  refine frm_open ?_
  refine frame_of ?_
  intros
  rename_i hq
  obtain ⟨-, -, e0q, e1q, e2q, e3q, e4q, e5q, -⟩ := hq
  obtain rfl := sI e0q
  obtain rfl := sI e1q
  obtain rfl := sI e2q
  obtain rfl := sI e3q
  obtain rfl := sI e4q
  obtain rfl := sI e5q
  conv => arg 2; whnf
  have q0 : (0 : Int) ≤ (k : Int) := by omega
  have q1 : (k : Int) ≤ (cq : Int) := by omega
  have q2 : ((k + 1 : Nat) : Int) - 1 = (k : Int) := by omega
  have q3 : (k : Int) + 1 - 1 = (k : Int) := by omega
  have HN := Lib.hid hN
  clear hN
  go_wp2_with fail
  exact HN.out _ (id ⟨rfl, rfl, rfl, rfl, rfl, rfl, rfl, rfl, trivial⟩)
noncomputable def c_of_r7 : Code := sub [1, 1, 0, 1, 0, 0, 1, 0, 0, 1, 1, 0] (Tryd.f38.body.getD .skip)
set_option maxRecDepth 1000000 in
set_option maxHeartbeats 16000000 in
theorem of_r7_wp {Q : Exit → Act → World → Prop} {hole : Bool} {n gx d : Nat} {v : Value} {wo w : World} {kd : Int} {nm : ByteArray} {A B : Option Addr} {n1 c1 n2 c2 : Nat} (hx : w.heap[gx]? = some (.cells #[.int .i64 kd, .string nm, .slice A n1 c1, .slice B n2 c2, .int .i64 (d : Nat)] 88 (0, 0))) (hN : ∀ a', Frm 150 [(1, .bool hole), (2, .pointer (some ⟨wo.heap.size, 0, none⟩)), (4, .pointer (some ⟨wo.heap.size + 1, 0, none⟩)), (5, v), (6, .int .i64 (n : Nat)), (7, .pointer (some ⟨gx, 0, none⟩)), (8, .pointer (some ⟨w.heap.size, 0, none⟩))] a' → Q .normal a' (w.alloc (.cells #[.int .i64 kd, .string nm, .slice A n1 c1, .slice B n2 c2] 25))) : ∀ ac, Frm 150 [(1, .bool hole), (2, .pointer (some ⟨wo.heap.size, 0, none⟩)), (4, .pointer (some ⟨wo.heap.size + 1, 0, none⟩)), (5, v), (6, .int .i64 (n : Nat)), (7, .pointer (some ⟨gx, 0, none⟩))] ac → Code.wp Tryd.prog c_of_r7 Q ac w := by
  refine frm_open ?_
  refine frame_of ?_
  intros
  rename_i hq
  obtain ⟨-, -, e0q, e1q, e2q, e3q, e4q, e5q, -⟩ := hq
  obtain rfl := sI e0q
  obtain rfl := sI e1q
  obtain rfl := sI e2q
  obtain rfl := sI e3q
  obtain rfl := sI e4q
  obtain rfl := sI e5q
  conv => arg 2; whnf
  have x0 := cellv hx 0 rfl
  have x1 := cellv hx 1 rfl
  have x2 := cellv hx 2 rfl
  have x3 := cellv hx 3 rfl
  have x4 := cellv hx 4 rfl
  have xl := lt_heap hx
  clear hx
  have HN := Lib.hid hN
  clear hN
  go_wp2_with fail
  exact HN.out _ (id ⟨rfl, rfl, rfl, rfl, rfl, rfl, rfl, rfl, rfl, trivial⟩)
noncomputable def c_of_r8 : Code := sub [1, 1, 0, 1, 0, 0, 1, 0, 0, 1, 1, 1, 0] (Tryd.f38.body.getD .skip)
set_option maxRecDepth 1000000 in
set_option maxHeartbeats 16000000 in
theorem of_r8_wp {Q : Exit → Act → World → Prop} {S : Nat → Prop} {hole : Bool} {n gx gg d : Nat} {v : Value} {L : List FmAt} {wo w : World} {kd : Int} {nm : ByteArray} {A B : Option Addr} {n1 c1 n2 c2 : Nat} (hS : ∀ b, S b → b < wo.heap.size) (hs : RD S wo w v L gx gg kd nm A n1 c1 B n2 c2 d) (hN : ∀ a' w', Frm 150 [(1, .bool hole), (2, .pointer (some ⟨wo.heap.size, 0, none⟩)), (4, .pointer (some ⟨wo.heap.size + 1, 0, none⟩)), (5, v), (6, .int .i64 (n : Nat)), (7, .pointer (some ⟨gx, 0, none⟩)), (8, .pointer (some ⟨gg, 0, none⟩)), (9, .int .i64 (subsI false kd))] a' → RD S wo w' v L gx gg kd nm A n1 c1 B n2 c2 d → Q .normal a' w') : ∀ ac, Frm 150 [(1, .bool hole), (2, .pointer (some ⟨wo.heap.size, 0, none⟩)), (4, .pointer (some ⟨wo.heap.size + 1, 0, none⟩)), (5, v), (6, .int .i64 (n : Nat)), (7, .pointer (some ⟨gx, 0, none⟩)), (8, .pointer (some ⟨gg, 0, none⟩))] ac → Code.wp Tryd.prog c_of_r8 Q ac w := by
  refine frm_open ?_
  refine frame_of ?_
  intros
  rename_i hq
  obtain ⟨-, -, e0q, e1q, e2q, e3q, e4q, e5q, e6q, -⟩ := hq
  obtain rfl := sI e0q
  obtain rfl := sI e1q
  obtain rfl := sI e2q
  obtain rfl := sI e3q
  obtain rfl := sI e4q
  obtain rfl := sI e5q
  obtain rfl := sI e6q
  conv => arg 2; whnf
  have hq := refSubs_any kd w
  have g0 := cellv hs.g 0 rfl
  have g1 := cellv hs.g 1 rfl
  have g2 := cellv hs.g 2 rfl
  have g3 := cellv hs.g 3 rfl
  have gl := lt_heap hs.g
  have HS := Lib.hid hs
  clear hs
  have HS_ := Lib.hid hS
  clear hS
  have HN := Lib.hid hN
  have HQ := Lib.hid hq
  clear hN hq
  go_wp2_with fail
  (with_reducible refine HQ.out.mono ?_)
  rintro e w1 ⟨rfl, hb1⟩
  have hs := HS.out.below HS_.out hb1
  have HS1 := Lib.hid hs
  clear hb1 hs
  go_wp2_with fail
  exact HN.out _ _ (id ⟨rfl, rfl, rfl, rfl, rfl, rfl, rfl, rfl, rfl, rfl, trivial⟩) HS1.out
noncomputable def c_of_r9 : Code := sub [1, 1, 0, 1, 0, 0, 1, 0, 0, 1, 1, 1, 1, 0, 0] (Tryd.f38.body.getD .skip)
set_option maxRecDepth 1000000 in
set_option maxHeartbeats 16000000 in
theorem of_r9_wp {Q : Exit → Act → World → Prop} {q : Int} {S : Nat → Prop} {hole : Bool} {n gx gg d : Nat} {v : Value} {L : List FmAt} {wo w : World} {kd : Int} {nm : ByteArray} {A B : Option Addr} {n1 c1 n2 c2 : Nat} (hs : RD S wo w v L gx gg kd nm A n1 c1 B n2 c2 d) (hN : ∀ a', Frm 150 [(1, .bool hole), (2, .pointer (some ⟨wo.heap.size, 0, none⟩)), (4, .pointer (some ⟨wo.heap.size + 1, 0, none⟩)), (5, v), (6, .int .i64 (n : Nat)), (7, .pointer (some ⟨gx, 0, none⟩)), (8, .pointer (some ⟨gg, 0, none⟩)), (9, .int .i64 q), (46, .bool (hole && decide (kd = 10)))] a' → Q .normal a' w) : ∀ ac, Frm 150 [(1, .bool hole), (2, .pointer (some ⟨wo.heap.size, 0, none⟩)), (4, .pointer (some ⟨wo.heap.size + 1, 0, none⟩)), (5, v), (6, .int .i64 (n : Nat)), (7, .pointer (some ⟨gx, 0, none⟩)), (8, .pointer (some ⟨gg, 0, none⟩)), (9, .int .i64 q)] ac → Code.wp Tryd.prog c_of_r9 Q ac w := by
  refine frm_open ?_
  refine frame_of ?_
  intros
  rename_i hq
  obtain ⟨-, -, e0q, e1q, e2q, e3q, e4q, e5q, e6q, e7q, -⟩ := hq
  obtain rfl := sI e0q
  obtain rfl := sI e1q
  obtain rfl := sI e2q
  obtain rfl := sI e3q
  obtain rfl := sI e4q
  obtain rfl := sI e5q
  obtain rfl := sI e6q
  obtain rfl := sI e7q
  conv => arg 2; whnf
  have g0 := cellv hs.g 0 rfl
  have g1 := cellv hs.g 1 rfl
  have g2 := cellv hs.g 2 rfl
  have g3 := cellv hs.g 3 rfl
  have gl := lt_heap hs.g
  have HS := Lib.hid hs
  clear hs
  cases hole
  case false =>
    rw [show (false && decide (kd = 10)) = false from rfl] at hN
    have HN := Lib.hid hN
    clear hN
    go_wp2_with fail
    exact HN.out _ (id ⟨rfl, rfl, rfl, rfl, rfl, rfl, rfl, rfl, rfl, rfl, rfl, trivial⟩)
  by_cases hk : kd = 10
  · subst hk
    rw [show (true && decide ((10 : Int) = 10)) = true from rfl] at hN
    have HN := Lib.hid hN
    clear hN
    go_wp2_with fail
    exact HN.out _ (id ⟨rfl, rfl, rfl, rfl, rfl, rfl, rfl, rfl, rfl, rfl, rfl, trivial⟩)
  · have t1 : (kd == 10) = false := beq_eq_false_iff_ne.2 hk
    rw [show (true && decide (kd = 10)) = false from by simp [hk]] at hN
    clear hk
    have HN := Lib.hid hN
    clear hN
    go_wp2_with fail
    exact HN.out _ (id ⟨rfl, rfl, rfl, rfl, rfl, rfl, rfl, rfl, rfl, rfl, rfl, trivial⟩)
noncomputable def c_of_r10 : Code := sub [1, 1, 0, 1, 0, 0, 1, 0, 0, 1, 1, 1, 1, 0, 1, 0] (Tryd.f38.body.getD .skip)
set_option maxRecDepth 1000000 in
set_option maxHeartbeats 16000000 in
theorem of_r10_wp {Q : Exit → Act → World → Prop} {q : Int} {hole : Bool} {n gx gg : Nat} {v : Value} {wo w : World} (hN : ∀ a', Frm 150 [(1, .bool hole), (2, .pointer (some ⟨wo.heap.size, 0, none⟩)), (4, .pointer (some ⟨wo.heap.size + 1, 0, none⟩)), (5, v), (6, .int .i64 (n : Nat)), (7, .pointer (some ⟨gx, 0, none⟩)), (8, .pointer (some ⟨gg, 0, none⟩)), (9, .int .i64 0)] a' → Q .normal a' w) : ∀ ac, Frm 150 [(1, .bool hole), (2, .pointer (some ⟨wo.heap.size, 0, none⟩)), (4, .pointer (some ⟨wo.heap.size + 1, 0, none⟩)), (5, v), (6, .int .i64 (n : Nat)), (7, .pointer (some ⟨gx, 0, none⟩)), (8, .pointer (some ⟨gg, 0, none⟩)), (9, .int .i64 q)] ac → Code.wp Tryd.prog c_of_r10 Q ac w := by
  refine frm_open ?_
  refine frame_of ?_
  intros
  rename_i hq
  obtain ⟨-, -, e0q, e1q, e2q, e3q, e4q, e5q, e6q, e7q, -⟩ := hq
  obtain rfl := sI e0q
  obtain rfl := sI e1q
  obtain rfl := sI e2q
  obtain rfl := sI e3q
  obtain rfl := sI e4q
  obtain rfl := sI e5q
  obtain rfl := sI e6q
  obtain rfl := sI e7q
  conv => arg 2; whnf
  have HN := Lib.hid hN
  clear hN
  go_wp2_with fail
  exact HN.out _ (id ⟨rfl, rfl, rfl, rfl, rfl, rfl, rfl, rfl, rfl, rfl, trivial⟩)
noncomputable def c_of_r11 : Code := sub [1, 1, 0, 1, 0, 0, 1, 0, 0, 1, 1, 1, 1, 1, 0] (Tryd.f38.body.getD .skip)
set_option maxRecDepth 1000000 in
set_option maxHeartbeats 16000000 in
theorem of_r11_wp {Q : Exit → Act → World → Prop} {q : Int} {hole : Bool} {n gx gg : Nat} {v : Value} {wo w : World} (hN : ∀ a', Frm 150 [(1, .bool hole), (2, .pointer (some ⟨wo.heap.size, 0, none⟩)), (4, .pointer (some ⟨wo.heap.size + 1, 0, none⟩)), (5, v), (6, .int .i64 (n : Nat)), (7, .pointer (some ⟨gx, 0, none⟩)), (8, .pointer (some ⟨gg, 0, none⟩)), (9, .int .i64 q), (10, .int .i64 0), (11, .int .i64 0)] a' → Q .normal a' w) : ∀ ac, Frm 150 [(1, .bool hole), (2, .pointer (some ⟨wo.heap.size, 0, none⟩)), (4, .pointer (some ⟨wo.heap.size + 1, 0, none⟩)), (5, v), (6, .int .i64 (n : Nat)), (7, .pointer (some ⟨gx, 0, none⟩)), (8, .pointer (some ⟨gg, 0, none⟩)), (9, .int .i64 q)] ac → Code.wp Tryd.prog c_of_r11 Q ac w := by
  refine frm_open ?_
  refine frame_of ?_
  intros
  rename_i hq
  obtain ⟨-, -, e0q, e1q, e2q, e3q, e4q, e5q, e6q, e7q, -⟩ := hq
  obtain rfl := sI e0q
  obtain rfl := sI e1q
  obtain rfl := sI e2q
  obtain rfl := sI e3q
  obtain rfl := sI e4q
  obtain rfl := sI e5q
  obtain rfl := sI e6q
  obtain rfl := sI e7q
  conv => arg 2; whnf
  have HN := Lib.hid hN
  clear hN
  go_wp2_with fail
  exact HN.out _ (id ⟨rfl, rfl, rfl, rfl, rfl, rfl, rfl, rfl, rfl, rfl, rfl, rfl, trivial⟩)
noncomputable def c_of_r12 : Code := sub [1, 1, 0, 1, 0, 0, 1, 0, 0, 1, 1, 1, 1, 1, 1, 0, 0] (Tryd.f38.body.getD .skip)
set_option maxRecDepth 1000000 in
set_option maxHeartbeats 16000000 in
theorem of_r12_wp {Q : Exit → Act → World → Prop} {q mo le : Int} {S : Nat → Prop} {hole : Bool} {n gx gg d : Nat} {v : Value} {L : List FmAt} {wo w : World} {kd : Int} {nm : ByteArray} {A B : Option Addr} {n1 c1 n2 c2 : Nat} (hs : RD S wo w v L gx gg kd nm A n1 c1 B n2 c2 d) (hN : ∀ a', Frm 150 [(1, .bool hole), (2, .pointer (some ⟨wo.heap.size, 0, none⟩)), (4, .pointer (some ⟨wo.heap.size + 1, 0, none⟩)), (5, v), (6, .int .i64 (n : Nat)), (7, .pointer (some ⟨gx, 0, none⟩)), (8, .pointer (some ⟨gg, 0, none⟩)), (9, .int .i64 q), (10, .int .i64 mo), (11, .int .i64 le), (49, .bool (decide (kd = 2)))] a' → Q .normal a' w) : ∀ ac, Frm 150 [(1, .bool hole), (2, .pointer (some ⟨wo.heap.size, 0, none⟩)), (4, .pointer (some ⟨wo.heap.size + 1, 0, none⟩)), (5, v), (6, .int .i64 (n : Nat)), (7, .pointer (some ⟨gx, 0, none⟩)), (8, .pointer (some ⟨gg, 0, none⟩)), (9, .int .i64 q), (10, .int .i64 mo), (11, .int .i64 le)] ac → Code.wp Tryd.prog c_of_r12 Q ac w := by
  refine frm_open ?_
  refine frame_of ?_
  intros
  rename_i hq
  obtain ⟨-, -, e0q, e1q, e2q, e3q, e4q, e5q, e6q, e7q, e8q, e9q, -⟩ := hq
  obtain rfl := sI e0q
  obtain rfl := sI e1q
  obtain rfl := sI e2q
  obtain rfl := sI e3q
  obtain rfl := sI e4q
  obtain rfl := sI e5q
  obtain rfl := sI e6q
  obtain rfl := sI e7q
  obtain rfl := sI e8q
  obtain rfl := sI e9q
  conv => arg 2; whnf
  have g0 := cellv hs.g 0 rfl
  have g1 := cellv hs.g 1 rfl
  have g2 := cellv hs.g 2 rfl
  have g3 := cellv hs.g 3 rfl
  have gl := lt_heap hs.g
  have HS := Lib.hid hs
  clear hs
  by_cases h : kd = 2
  · subst h
    rw [show decide ((2 : Int) = 2) = true from rfl] at hN
    have HN := Lib.hid hN
    clear hN
    go_wp2_with fail
    exact HN.out _ (id ⟨rfl, rfl, rfl, rfl, rfl, rfl, rfl, rfl, rfl, rfl, rfl, rfl, rfl, trivial⟩)
  · have t1 : (kd == 2) = false := beq_eq_false_iff_ne.2 h
    rw [show decide (kd = 2) = false from decide_eq_false h] at hN
    clear h
    have HN := Lib.hid hN
    clear hN
    go_wp2_with fail
    exact HN.out _ (id ⟨rfl, rfl, rfl, rfl, rfl, rfl, rfl, rfl, rfl, rfl, rfl, rfl, rfl, trivial⟩)
noncomputable def c_of_r13 : Code := sub [1, 1, 0, 1, 0, 0, 1, 0, 0, 1, 1, 1, 1, 1, 1, 0, 1, 0] (Tryd.f38.body.getD .skip)
set_option maxRecDepth 1000000 in
set_option maxHeartbeats 16000000 in
theorem of_r13_wp {Q : Exit → Act → World → Prop} {q mo le : Int} {hole : Bool} {n gx gg : Nat} {v : Value} {wo w : World} (hN : ∀ a', Frm 150 [(1, .bool hole), (2, .pointer (some ⟨wo.heap.size, 0, none⟩)), (4, .pointer (some ⟨wo.heap.size + 1, 0, none⟩)), (5, v), (6, .int .i64 (n : Nat)), (7, .pointer (some ⟨gx, 0, none⟩)), (8, .pointer (some ⟨gg, 0, none⟩)), (9, .int .i64 q), (10, .int .i64 3), (11, .int .i64 le)] a' → Q .normal a' w) : ∀ ac, Frm 150 [(1, .bool hole), (2, .pointer (some ⟨wo.heap.size, 0, none⟩)), (4, .pointer (some ⟨wo.heap.size + 1, 0, none⟩)), (5, v), (6, .int .i64 (n : Nat)), (7, .pointer (some ⟨gx, 0, none⟩)), (8, .pointer (some ⟨gg, 0, none⟩)), (9, .int .i64 q), (10, .int .i64 mo), (11, .int .i64 le)] ac → Code.wp Tryd.prog c_of_r13 Q ac w := by
  refine frm_open ?_
  refine frame_of ?_
  intros
  rename_i hq
  obtain ⟨-, -, e0q, e1q, e2q, e3q, e4q, e5q, e6q, e7q, e8q, e9q, -⟩ := hq
  obtain rfl := sI e0q
  obtain rfl := sI e1q
  obtain rfl := sI e2q
  obtain rfl := sI e3q
  obtain rfl := sI e4q
  obtain rfl := sI e5q
  obtain rfl := sI e6q
  obtain rfl := sI e7q
  obtain rfl := sI e8q
  obtain rfl := sI e9q
  conv => arg 2; whnf
  have HN := Lib.hid hN
  clear hN
  go_wp2_with fail
  exact HN.out _ (id ⟨rfl, rfl, rfl, rfl, rfl, rfl, rfl, rfl, rfl, rfl, rfl, rfl, trivial⟩)
noncomputable def c_of_r14 : Code := sub [1, 1, 0, 1, 0, 0, 1, 0, 0, 1, 1, 1, 1, 1, 1, 1, 0, 0] (Tryd.f38.body.getD .skip)
set_option maxRecDepth 1000000 in
set_option maxHeartbeats 16000000 in
theorem of_r14_wp {Q : Exit → Act → World → Prop} {q mo le : Int} {S : Nat → Prop} {hole : Bool} {n gx gg d : Nat} {v : Value} {L : List FmAt} {wo w : World} {kd : Int} {nm : ByteArray} {A B : Option Addr} {n1 c1 n2 c2 : Nat} (hs : RD S wo w v L gx gg kd nm A n1 c1 B n2 c2 d) (hN : ∀ a', Frm 150 [(1, .bool hole), (2, .pointer (some ⟨wo.heap.size, 0, none⟩)), (4, .pointer (some ⟨wo.heap.size + 1, 0, none⟩)), (5, v), (6, .int .i64 (n : Nat)), (7, .pointer (some ⟨gx, 0, none⟩)), (8, .pointer (some ⟨gg, 0, none⟩)), (9, .int .i64 q), (10, .int .i64 mo), (11, .int .i64 le), (52, .bool (decide (kd = 3)))] a' → Q .normal a' w) : ∀ ac, Frm 150 [(1, .bool hole), (2, .pointer (some ⟨wo.heap.size, 0, none⟩)), (4, .pointer (some ⟨wo.heap.size + 1, 0, none⟩)), (5, v), (6, .int .i64 (n : Nat)), (7, .pointer (some ⟨gx, 0, none⟩)), (8, .pointer (some ⟨gg, 0, none⟩)), (9, .int .i64 q), (10, .int .i64 mo), (11, .int .i64 le)] ac → Code.wp Tryd.prog c_of_r14 Q ac w := by
  refine frm_open ?_
  refine frame_of ?_
  intros
  rename_i hq
  obtain ⟨-, -, e0q, e1q, e2q, e3q, e4q, e5q, e6q, e7q, e8q, e9q, -⟩ := hq
  obtain rfl := sI e0q
  obtain rfl := sI e1q
  obtain rfl := sI e2q
  obtain rfl := sI e3q
  obtain rfl := sI e4q
  obtain rfl := sI e5q
  obtain rfl := sI e6q
  obtain rfl := sI e7q
  obtain rfl := sI e8q
  obtain rfl := sI e9q
  conv => arg 2; whnf
  have g0 := cellv hs.g 0 rfl
  have g1 := cellv hs.g 1 rfl
  have g2 := cellv hs.g 2 rfl
  have g3 := cellv hs.g 3 rfl
  have gl := lt_heap hs.g
  have HS := Lib.hid hs
  clear hs
  by_cases h : kd = 3
  · subst h
    rw [show decide ((3 : Int) = 3) = true from rfl] at hN
    have HN := Lib.hid hN
    clear hN
    go_wp2_with fail
    exact HN.out _ (id ⟨rfl, rfl, rfl, rfl, rfl, rfl, rfl, rfl, rfl, rfl, rfl, rfl, rfl, trivial⟩)
  · have t1 : (kd == 3) = false := beq_eq_false_iff_ne.2 h
    rw [show decide (kd = 3) = false from decide_eq_false h] at hN
    clear h
    have HN := Lib.hid hN
    clear hN
    go_wp2_with fail
    exact HN.out _ (id ⟨rfl, rfl, rfl, rfl, rfl, rfl, rfl, rfl, rfl, rfl, rfl, rfl, rfl, trivial⟩)
noncomputable def c_of_r15 : Code := sub [1, 1, 0, 1, 0, 0, 1, 0, 0, 1, 1, 1, 1, 1, 1, 1, 0, 1, 0] (Tryd.f38.body.getD .skip)
set_option maxRecDepth 1000000 in
set_option maxHeartbeats 16000000 in
theorem of_r15_wp {Q : Exit → Act → World → Prop} {q mo le : Int} {hole : Bool} {n gx gg : Nat} {v : Value} {wo w : World} (hN : ∀ a', Frm 150 [(1, .bool hole), (2, .pointer (some ⟨wo.heap.size, 0, none⟩)), (4, .pointer (some ⟨wo.heap.size + 1, 0, none⟩)), (5, v), (6, .int .i64 (n : Nat)), (7, .pointer (some ⟨gx, 0, none⟩)), (8, .pointer (some ⟨gg, 0, none⟩)), (9, .int .i64 q), (10, .int .i64 2), (11, .int .i64 2)] a' → Q .normal a' w) : ∀ ac, Frm 150 [(1, .bool hole), (2, .pointer (some ⟨wo.heap.size, 0, none⟩)), (4, .pointer (some ⟨wo.heap.size + 1, 0, none⟩)), (5, v), (6, .int .i64 (n : Nat)), (7, .pointer (some ⟨gx, 0, none⟩)), (8, .pointer (some ⟨gg, 0, none⟩)), (9, .int .i64 q), (10, .int .i64 mo), (11, .int .i64 le)] ac → Code.wp Tryd.prog c_of_r15 Q ac w := by
  refine frm_open ?_
  refine frame_of ?_
  intros
  rename_i hq
  obtain ⟨-, -, e0q, e1q, e2q, e3q, e4q, e5q, e6q, e7q, e8q, e9q, -⟩ := hq
  obtain rfl := sI e0q
  obtain rfl := sI e1q
  obtain rfl := sI e2q
  obtain rfl := sI e3q
  obtain rfl := sI e4q
  obtain rfl := sI e5q
  obtain rfl := sI e6q
  obtain rfl := sI e7q
  obtain rfl := sI e8q
  obtain rfl := sI e9q
  conv => arg 2; whnf
  have HN := Lib.hid hN
  clear hN
  go_wp2_with fail
  exact HN.out _ (id ⟨rfl, rfl, rfl, rfl, rfl, rfl, rfl, rfl, rfl, rfl, rfl, rfl, trivial⟩)
noncomputable def c_of_r16 : Code := sub [1, 1, 0, 1, 0, 0, 1, 0, 0, 1, 1, 1, 1, 1, 1, 1, 1, 0] (Tryd.f38.body.getD .skip)
set_option maxRecDepth 1000000 in
set_option maxHeartbeats 16000000 in
theorem of_r16_wp {Q : Exit → Act → World → Prop} {q mo le : Int} {S : Nat → Prop} {hole : Bool} {n gx gg d : Nat} {v : Value} {L : List FmAt} {wo w : World} {kd : Int} {nm : ByteArray} {A B : Option Addr} {n1 c1 n2 c2 : Nat} (hs : RD S wo w v L gx gg kd nm A n1 c1 B n2 c2 d) (hN : ∀ a', Frm 150 [(1, .bool hole), (2, .pointer (some ⟨wo.heap.size, 0, none⟩)), (4, .pointer (some ⟨wo.heap.size + 1, 0, none⟩)), (5, v), (6, .int .i64 (n : Nat)), (7, .pointer (some ⟨gx, 0, none⟩)), (8, .pointer (some ⟨gg, 0, none⟩)), (9, .int .i64 q), (10, .int .i64 mo), (11, .int .i64 le), (12, .bool (namedF kd))] a' → Q .normal a' w) : ∀ ac, Frm 150 [(1, .bool hole), (2, .pointer (some ⟨wo.heap.size, 0, none⟩)), (4, .pointer (some ⟨wo.heap.size + 1, 0, none⟩)), (5, v), (6, .int .i64 (n : Nat)), (7, .pointer (some ⟨gx, 0, none⟩)), (8, .pointer (some ⟨gg, 0, none⟩)), (9, .int .i64 q), (10, .int .i64 mo), (11, .int .i64 le)] ac → Code.wp Tryd.prog c_of_r16 Q ac w := by
  refine frm_open ?_
  refine frame_of ?_
  intros
  rename_i hq
  obtain ⟨-, -, e0q, e1q, e2q, e3q, e4q, e5q, e6q, e7q, e8q, e9q, -⟩ := hq
  obtain rfl := sI e0q
  obtain rfl := sI e1q
  obtain rfl := sI e2q
  obtain rfl := sI e3q
  obtain rfl := sI e4q
  obtain rfl := sI e5q
  obtain rfl := sI e6q
  obtain rfl := sI e7q
  obtain rfl := sI e8q
  obtain rfl := sI e9q
  conv => arg 2; whnf
  have g0 := cellv hs.g 0 rfl
  have g1 := cellv hs.g 1 rfl
  have g2 := cellv hs.g 2 rfl
  have g3 := cellv hs.g 3 rfl
  have gl := lt_heap hs.g
  have HS := Lib.hid hs
  clear hs
  by_cases h2 : kd = 2
  · subst h2
    rw [show namedF (2 : Int) = true from rfl] at hN
    have HN := Lib.hid hN
    clear hN
    go_wp2_with fail
    exact HN.out _ (id ⟨rfl, rfl, rfl, rfl, rfl, rfl, rfl, rfl, rfl, rfl, rfl, rfl, rfl, trivial⟩)
  have t2 : (kd == 2) = false := beq_eq_false_iff_ne.2 h2
  by_cases h8 : kd = 8
  · subst h8
    rw [show namedF (8 : Int) = true from rfl] at hN
    have HN := Lib.hid hN
    clear hN
    go_wp2_with fail
    exact HN.out _ (id ⟨rfl, rfl, rfl, rfl, rfl, rfl, rfl, rfl, rfl, rfl, rfl, rfl, rfl, trivial⟩)
  have t8 : (kd == 8) = false := beq_eq_false_iff_ne.2 h8
  by_cases h9 : kd = 9
  · subst h9
    rw [show namedF (9 : Int) = true from rfl] at hN
    have HN := Lib.hid hN
    clear hN
    go_wp2_with fail
    exact HN.out _ (id ⟨rfl, rfl, rfl, rfl, rfl, rfl, rfl, rfl, rfl, rfl, rfl, rfl, rfl, trivial⟩)
  have t9 : (kd == 9) = false := beq_eq_false_iff_ne.2 h9
  by_cases h10 : kd = 10
  · subst h10
    rw [show namedF (10 : Int) = true from rfl] at hN
    have HN := Lib.hid hN
    clear hN
    go_wp2_with fail
    exact HN.out _ (id ⟨rfl, rfl, rfl, rfl, rfl, rfl, rfl, rfl, rfl, rfl, rfl, rfl, rfl, trivial⟩)
  have t10 : (kd == 10) = false := beq_eq_false_iff_ne.2 h10

  rw [show namedF kd = false from by simp [namedF, h2, h8, h9, h10]] at hN
  clear h2 h8 h9 h10
  have HN := Lib.hid hN
  clear hN
  go_wp2_with fail
  exact HN.out _ (id ⟨rfl, rfl, rfl, rfl, rfl, rfl, rfl, rfl, rfl, rfl, rfl, rfl, rfl, trivial⟩)
noncomputable def c_of_r17 : Code := sub [1, 1, 0, 1, 0, 0, 1, 0, 0, 1, 1, 1, 1, 1, 1, 1, 1, 1, 0] (Tryd.f38.body.getD .skip)
set_option maxRecDepth 1000000 in
set_option maxHeartbeats 16000000 in
theorem of_r17_wp {Q : Exit → Act → World → Prop} {q mo le : Int} {nb : Bool} {hole : Bool} {n gx gg : Nat} {v : Value} {wo w : World} (hN : ∀ a', Frm 150 [(1, .bool hole), (2, .pointer (some ⟨wo.heap.size, 0, none⟩)), (4, .pointer (some ⟨wo.heap.size + 1, 0, none⟩)), (5, v), (6, .int .i64 (n : Nat)), (7, .pointer (some ⟨gx, 0, none⟩)), (8, .pointer (some ⟨gg, 0, none⟩)), (9, .int .i64 q), (10, .int .i64 mo), (11, .int .i64 le), (12, .bool nb), (13, .int .i64 0)] a' → Q .normal a' w) : ∀ ac, Frm 150 [(1, .bool hole), (2, .pointer (some ⟨wo.heap.size, 0, none⟩)), (4, .pointer (some ⟨wo.heap.size + 1, 0, none⟩)), (5, v), (6, .int .i64 (n : Nat)), (7, .pointer (some ⟨gx, 0, none⟩)), (8, .pointer (some ⟨gg, 0, none⟩)), (9, .int .i64 q), (10, .int .i64 mo), (11, .int .i64 le), (12, .bool nb)] ac → Code.wp Tryd.prog c_of_r17 Q ac w := by
  refine frm_open ?_
  refine frame_of ?_
  intros
  rename_i hq
  obtain ⟨-, -, e0q, e1q, e2q, e3q, e4q, e5q, e6q, e7q, e8q, e9q, e10q, -⟩ := hq
  obtain rfl := sI e0q
  obtain rfl := sI e1q
  obtain rfl := sI e2q
  obtain rfl := sI e3q
  obtain rfl := sI e4q
  obtain rfl := sI e5q
  obtain rfl := sI e6q
  obtain rfl := sI e7q
  obtain rfl := sI e8q
  obtain rfl := sI e9q
  obtain rfl := sI e10q
  conv => arg 2; whnf
  have HN := Lib.hid hN
  clear hN
  go_wp2_with fail
  exact HN.out _ (id ⟨rfl, rfl, rfl, rfl, rfl, rfl, rfl, rfl, rfl, rfl, rfl, rfl, rfl, rfl, trivial⟩)
noncomputable def c_of_r18 : Code := sub [1, 1, 0, 1, 0, 0, 1, 0, 0, 1, 1, 1, 1, 1, 1, 1, 1, 1, 1, 0, 0] (Tryd.f38.body.getD .skip)
set_option maxRecDepth 1000000 in
set_option maxHeartbeats 16000000 in
theorem of_r18_wp {Q : Exit → Act → World → Prop} {q mo le : Int} {nb : Bool} {cd : Nat} {S : Nat → Prop} {hole : Bool} {n gx gg d : Nat} {v : Value} {L : List FmAt} {wo w : World} {kd : Int} {nm : ByteArray} {A B : Option Addr} {n1 c1 n2 c2 : Nat} (hs : RD S wo w v L gx gg kd nm A n1 c1 B n2 c2 d) (hN : ∀ a', Frm 150 [(1, .bool hole), (2, .pointer (some ⟨wo.heap.size, 0, none⟩)), (4, .pointer (some ⟨wo.heap.size + 1, 0, none⟩)), (5, v), (6, .int .i64 (n : Nat)), (7, .pointer (some ⟨gx, 0, none⟩)), (8, .pointer (some ⟨gg, 0, none⟩)), (9, .int .i64 q), (10, .int .i64 mo), (11, .int .i64 le), (12, .bool nb), (13, .int .i64 (cd : Nat)), (77, .bool (decide (200 < n + 1 ∨ 40 < d)))] a' → Q .normal a' w) : ∀ ac, Frm 150 [(1, .bool hole), (2, .pointer (some ⟨wo.heap.size, 0, none⟩)), (4, .pointer (some ⟨wo.heap.size + 1, 0, none⟩)), (5, v), (6, .int .i64 (n : Nat)), (7, .pointer (some ⟨gx, 0, none⟩)), (8, .pointer (some ⟨gg, 0, none⟩)), (9, .int .i64 q), (10, .int .i64 mo), (11, .int .i64 le), (12, .bool nb), (13, .int .i64 (cd : Nat))] ac → Code.wp Tryd.prog c_of_r18 Q ac w := by
  refine frm_open ?_
  refine frame_of ?_
  intros
  rename_i hq
  obtain ⟨-, -, e0q, e1q, e2q, e3q, e4q, e5q, e6q, e7q, e8q, e9q, e10q, e11q, -⟩ := hq
  obtain rfl := sI e0q
  obtain rfl := sI e1q
  obtain rfl := sI e2q
  obtain rfl := sI e3q
  obtain rfl := sI e4q
  obtain rfl := sI e5q
  obtain rfl := sI e6q
  obtain rfl := sI e7q
  obtain rfl := sI e8q
  obtain rfl := sI e9q
  obtain rfl := sI e10q
  obtain rfl := sI e11q
  conv => arg 2; whnf
  have x4 := cellv hs.x 4 rfl
  have xl := lt_heap hs.x
  have HS := Lib.hid hs
  clear hs
  by_cases h1 : 200 < n + 1
  · have t1 : decide ((200 : Int) ≤ (n : Int)) = true := decide_eq_true (by omega)
    rw [show decide (200 < n + 1 ∨ 40 < d) = true from decide_eq_true (Or.inl h1)] at hN
    clear h1
    have HN := Lib.hid hN
    clear hN
    go_wp2_with fail
    exact HN.out _ (id ⟨rfl, rfl, rfl, rfl, rfl, rfl, rfl, rfl, rfl, rfl, rfl, rfl, rfl, rfl, rfl, trivial⟩)
  have t1 : decide ((200 : Int) ≤ (n : Int)) = false := decide_eq_false (by omega)
  by_cases h2 : 40 < d
  · have t2 : decide ((40 : Int) < (d : Int)) = true := decide_eq_true (by omega)
    rw [show decide (200 < n + 1 ∨ 40 < d) = true from decide_eq_true (Or.inr h2)] at hN
    clear h1 h2
    have HN := Lib.hid hN
    clear hN
    go_wp2_with fail
    exact HN.out _ (id ⟨rfl, rfl, rfl, rfl, rfl, rfl, rfl, rfl, rfl, rfl, rfl, rfl, rfl, rfl, rfl, trivial⟩)
  · have t2 : decide ((40 : Int) < (d : Int)) = false := decide_eq_false (by omega)
    rw [show decide (200 < n + 1 ∨ 40 < d) = false from decide_eq_false (fun h => by omega)] at hN
    clear h1 h2
    have HN := Lib.hid hN
    clear hN
    go_wp2_with fail
    exact HN.out _ (id ⟨rfl, rfl, rfl, rfl, rfl, rfl, rfl, rfl, rfl, rfl, rfl, rfl, rfl, rfl, rfl, trivial⟩)
noncomputable def c_of_r19 : Code := sub [1, 1, 0, 1, 0, 0, 1, 0, 0, 1, 1, 1, 1, 1, 1, 1, 1, 1, 1, 0, 1, 0] (Tryd.f38.body.getD .skip)
set_option maxRecDepth 1000000 in
set_option maxHeartbeats 16000000 in
theorem of_r19_wp {Q : Exit → Act → World → Prop} {q mo le : Int} {nb : Bool} {cd : Nat} {hole : Bool} {n gx gg : Nat} {v : Value} {wo w : World} (hN : ∀ a', Frm 150 [(1, .bool hole), (2, .pointer (some ⟨wo.heap.size, 0, none⟩)), (4, .pointer (some ⟨wo.heap.size + 1, 0, none⟩)), (5, v), (6, .int .i64 (n : Nat)), (7, .pointer (some ⟨gx, 0, none⟩)), (8, .pointer (some ⟨gg, 0, none⟩)), (9, .int .i64 q), (10, .int .i64 mo), (11, .int .i64 le), (12, .bool nb), (13, .int .i64 (1 : Nat))] a' → Q .normal a' w) : ∀ ac, Frm 150 [(1, .bool hole), (2, .pointer (some ⟨wo.heap.size, 0, none⟩)), (4, .pointer (some ⟨wo.heap.size + 1, 0, none⟩)), (5, v), (6, .int .i64 (n : Nat)), (7, .pointer (some ⟨gx, 0, none⟩)), (8, .pointer (some ⟨gg, 0, none⟩)), (9, .int .i64 q), (10, .int .i64 mo), (11, .int .i64 le), (12, .bool nb), (13, .int .i64 (cd : Nat))] ac → Code.wp Tryd.prog c_of_r19 Q ac w := by
  refine frm_open ?_
  refine frame_of ?_
  intros
  rename_i hq
  obtain ⟨-, -, e0q, e1q, e2q, e3q, e4q, e5q, e6q, e7q, e8q, e9q, e10q, e11q, -⟩ := hq
  obtain rfl := sI e0q
  obtain rfl := sI e1q
  obtain rfl := sI e2q
  obtain rfl := sI e3q
  obtain rfl := sI e4q
  obtain rfl := sI e5q
  obtain rfl := sI e6q
  obtain rfl := sI e7q
  obtain rfl := sI e8q
  obtain rfl := sI e9q
  obtain rfl := sI e10q
  obtain rfl := sI e11q
  conv => arg 2; whnf
  have HN := Lib.hid hN
  clear hN
  go_wp2_with fail
  exact HN.out _ (id ⟨rfl, rfl, rfl, rfl, rfl, rfl, rfl, rfl, rfl, rfl, rfl, rfl, rfl, rfl, trivial⟩)
noncomputable def c_of_r21 : Code := sub [1, 1, 0, 1, 0, 0, 1, 0, 0, 1, 1, 1, 1, 1, 1, 1, 1, 1, 1, 0, 1, 1, 1, 0] (Tryd.f38.body.getD .skip)
set_option maxRecDepth 1000000 in
set_option maxHeartbeats 16000000 in
theorem of_r21_wp {Q : Exit → Act → World → Prop} {q mo le : Int} {nb : Bool} {cd : Nat} {hole : Bool} {n gx gg : Nat} {v : Value} {wo w : World} (hN : ∀ a', Frm 150 [(1, .bool hole), (2, .pointer (some ⟨wo.heap.size, 0, none⟩)), (4, .pointer (some ⟨wo.heap.size + 1, 0, none⟩)), (5, v), (6, .int .i64 (n : Nat)), (7, .pointer (some ⟨gx, 0, none⟩)), (8, .pointer (some ⟨gg, 0, none⟩)), (9, .int .i64 q), (10, .int .i64 mo), (11, .int .i64 le), (12, .bool nb), (13, .int .i64 (4 : Nat))] a' → Q .normal a' w) : ∀ ac, Frm 150 [(1, .bool hole), (2, .pointer (some ⟨wo.heap.size, 0, none⟩)), (4, .pointer (some ⟨wo.heap.size + 1, 0, none⟩)), (5, v), (6, .int .i64 (n : Nat)), (7, .pointer (some ⟨gx, 0, none⟩)), (8, .pointer (some ⟨gg, 0, none⟩)), (9, .int .i64 q), (10, .int .i64 mo), (11, .int .i64 le), (12, .bool nb), (13, .int .i64 (cd : Nat))] ac → Code.wp Tryd.prog c_of_r21 Q ac w := by
  refine frm_open ?_
  refine frame_of ?_
  intros
  rename_i hq
  obtain ⟨-, -, e0q, e1q, e2q, e3q, e4q, e5q, e6q, e7q, e8q, e9q, e10q, e11q, -⟩ := hq
  obtain rfl := sI e0q
  obtain rfl := sI e1q
  obtain rfl := sI e2q
  obtain rfl := sI e3q
  obtain rfl := sI e4q
  obtain rfl := sI e5q
  obtain rfl := sI e6q
  obtain rfl := sI e7q
  obtain rfl := sI e8q
  obtain rfl := sI e9q
  obtain rfl := sI e10q
  obtain rfl := sI e11q
  conv => arg 2; whnf
  have HN := Lib.hid hN
  clear hN
  go_wp2_with fail
  exact HN.out _ (id ⟨rfl, rfl, rfl, rfl, rfl, rfl, rfl, rfl, rfl, rfl, rfl, rfl, rfl, rfl, trivial⟩)
noncomputable def c_of_r23 : Code := sub [1, 1, 0, 1, 0, 0, 1, 0, 0, 1, 1, 1, 1, 1, 1, 1, 1, 1, 1, 0, 1, 1, 1, 1, 1, 0] (Tryd.f38.body.getD .skip)
set_option maxRecDepth 1000000 in
set_option maxHeartbeats 16000000 in
theorem of_r23_wp {Q : Exit → Act → World → Prop} {q mo le : Int} {nb : Bool} {cd : Nat} {hole : Bool} {n gx gg : Nat} {v : Value} {wo w : World} (hN : ∀ a', Frm 150 [(1, .bool hole), (2, .pointer (some ⟨wo.heap.size, 0, none⟩)), (4, .pointer (some ⟨wo.heap.size + 1, 0, none⟩)), (5, v), (6, .int .i64 (n : Nat)), (7, .pointer (some ⟨gx, 0, none⟩)), (8, .pointer (some ⟨gg, 0, none⟩)), (9, .int .i64 q), (10, .int .i64 mo), (11, .int .i64 le), (12, .bool nb), (13, .int .i64 (9 : Nat))] a' → Q .normal a' w) : ∀ ac, Frm 150 [(1, .bool hole), (2, .pointer (some ⟨wo.heap.size, 0, none⟩)), (4, .pointer (some ⟨wo.heap.size + 1, 0, none⟩)), (5, v), (6, .int .i64 (n : Nat)), (7, .pointer (some ⟨gx, 0, none⟩)), (8, .pointer (some ⟨gg, 0, none⟩)), (9, .int .i64 q), (10, .int .i64 mo), (11, .int .i64 le), (12, .bool nb), (13, .int .i64 (cd : Nat))] ac → Code.wp Tryd.prog c_of_r23 Q ac w := by
  refine frm_open ?_
  refine frame_of ?_
  intros
  rename_i hq
  obtain ⟨-, -, e0q, e1q, e2q, e3q, e4q, e5q, e6q, e7q, e8q, e9q, e10q, e11q, -⟩ := hq
  obtain rfl := sI e0q
  obtain rfl := sI e1q
  obtain rfl := sI e2q
  obtain rfl := sI e3q
  obtain rfl := sI e4q
  obtain rfl := sI e5q
  obtain rfl := sI e6q
  obtain rfl := sI e7q
  obtain rfl := sI e8q
  obtain rfl := sI e9q
  obtain rfl := sI e10q
  obtain rfl := sI e11q
  conv => arg 2; whnf
  have HN := Lib.hid hN
  clear hN
  go_wp2_with fail
  exact HN.out _ (id ⟨rfl, rfl, rfl, rfl, rfl, rfl, rfl, rfl, rfl, rfl, rfl, rfl, rfl, rfl, trivial⟩)
noncomputable def c_of_r25 : Code := sub [1, 1, 0, 1, 0, 0, 1, 0, 0, 1, 1, 1, 1, 1, 1, 1, 1, 1, 1, 0, 1, 1, 1, 1, 1, 1, 1, 0] (Tryd.f38.body.getD .skip)
set_option maxRecDepth 1000000 in
set_option maxHeartbeats 16000000 in
theorem of_r25_wp {Q : Exit → Act → World → Prop} {q mo le : Int} {nb : Bool} {cd : Nat} {hole : Bool} {n gx gg : Nat} {v : Value} {wo w : World} (hN : ∀ a', Frm 150 [(1, .bool hole), (2, .pointer (some ⟨wo.heap.size, 0, none⟩)), (4, .pointer (some ⟨wo.heap.size + 1, 0, none⟩)), (5, v), (6, .int .i64 (n : Nat)), (7, .pointer (some ⟨gx, 0, none⟩)), (8, .pointer (some ⟨gg, 0, none⟩)), (9, .int .i64 q), (10, .int .i64 mo), (11, .int .i64 le), (12, .bool nb), (13, .int .i64 (10 : Nat))] a' → Q .normal a' w) : ∀ ac, Frm 150 [(1, .bool hole), (2, .pointer (some ⟨wo.heap.size, 0, none⟩)), (4, .pointer (some ⟨wo.heap.size + 1, 0, none⟩)), (5, v), (6, .int .i64 (n : Nat)), (7, .pointer (some ⟨gx, 0, none⟩)), (8, .pointer (some ⟨gg, 0, none⟩)), (9, .int .i64 q), (10, .int .i64 mo), (11, .int .i64 le), (12, .bool nb), (13, .int .i64 (cd : Nat))] ac → Code.wp Tryd.prog c_of_r25 Q ac w := by
  refine frm_open ?_
  refine frame_of ?_
  intros
  rename_i hq
  obtain ⟨-, -, e0q, e1q, e2q, e3q, e4q, e5q, e6q, e7q, e8q, e9q, e10q, e11q, -⟩ := hq
  obtain rfl := sI e0q
  obtain rfl := sI e1q
  obtain rfl := sI e2q
  obtain rfl := sI e3q
  obtain rfl := sI e4q
  obtain rfl := sI e5q
  obtain rfl := sI e6q
  obtain rfl := sI e7q
  obtain rfl := sI e8q
  obtain rfl := sI e9q
  obtain rfl := sI e10q
  obtain rfl := sI e11q
  conv => arg 2; whnf
  have HN := Lib.hid hN
  clear hN
  go_wp2_with fail
  exact HN.out _ (id ⟨rfl, rfl, rfl, rfl, rfl, rfl, rfl, rfl, rfl, rfl, rfl, rfl, rfl, rfl, trivial⟩)
noncomputable def c_of_r27 : Code := sub [1, 1, 0, 1, 0, 0, 1, 0, 0, 1, 1, 1, 1, 1, 1, 1, 1, 1, 1, 0, 1, 1, 1, 1, 1, 1, 1, 1, 1, 0] (Tryd.f38.body.getD .skip)
set_option maxRecDepth 1000000 in
set_option maxHeartbeats 16000000 in
theorem of_r27_wp {Q : Exit → Act → World → Prop} {q mo le : Int} {nb : Bool} {cd : Nat} {hole : Bool} {n gx gg : Nat} {v : Value} {wo w : World} (hN : ∀ a', Frm 150 [(1, .bool hole), (2, .pointer (some ⟨wo.heap.size, 0, none⟩)), (4, .pointer (some ⟨wo.heap.size + 1, 0, none⟩)), (5, v), (6, .int .i64 (n : Nat)), (7, .pointer (some ⟨gx, 0, none⟩)), (8, .pointer (some ⟨gg, 0, none⟩)), (9, .int .i64 q), (10, .int .i64 mo), (11, .int .i64 le), (12, .bool nb), (13, .int .i64 (5 : Nat))] a' → Q .normal a' w) : ∀ ac, Frm 150 [(1, .bool hole), (2, .pointer (some ⟨wo.heap.size, 0, none⟩)), (4, .pointer (some ⟨wo.heap.size + 1, 0, none⟩)), (5, v), (6, .int .i64 (n : Nat)), (7, .pointer (some ⟨gx, 0, none⟩)), (8, .pointer (some ⟨gg, 0, none⟩)), (9, .int .i64 q), (10, .int .i64 mo), (11, .int .i64 le), (12, .bool nb), (13, .int .i64 (cd : Nat))] ac → Code.wp Tryd.prog c_of_r27 Q ac w := by
  refine frm_open ?_
  refine frame_of ?_
  intros
  rename_i hq
  obtain ⟨-, -, e0q, e1q, e2q, e3q, e4q, e5q, e6q, e7q, e8q, e9q, e10q, e11q, -⟩ := hq
  obtain rfl := sI e0q
  obtain rfl := sI e1q
  obtain rfl := sI e2q
  obtain rfl := sI e3q
  obtain rfl := sI e4q
  obtain rfl := sI e5q
  obtain rfl := sI e6q
  obtain rfl := sI e7q
  obtain rfl := sI e8q
  obtain rfl := sI e9q
  obtain rfl := sI e10q
  obtain rfl := sI e11q
  conv => arg 2; whnf
  have HN := Lib.hid hN
  clear hN
  go_wp2_with fail
  exact HN.out _ (id ⟨rfl, rfl, rfl, rfl, rfl, rfl, rfl, rfl, rfl, rfl, rfl, rfl, rfl, rfl, trivial⟩)
noncomputable def c_of_r20 : Code := sub [1, 1, 0, 1, 0, 0, 1, 0, 0, 1, 1, 1, 1, 1, 1, 1, 1, 1, 1, 0, 1, 1, 0] (Tryd.f38.body.getD .skip)
set_option maxRecDepth 1000000 in
set_option maxHeartbeats 16000000 in
theorem of_r20_wp {Q : Exit → Act → World → Prop} {q mo le : Int} {nb : Bool} {cd : Nat} {hole : Bool} {n gx gg : Nat} {v : Value} {wo w : World} (hN : ∀ a', Frm 150 [(1, .bool hole), (2, .pointer (some ⟨wo.heap.size, 0, none⟩)), (4, .pointer (some ⟨wo.heap.size + 1, 0, none⟩)), (5, v), (6, .int .i64 (n : Nat)), (7, .pointer (some ⟨gx, 0, none⟩)), (8, .pointer (some ⟨gg, 0, none⟩)), (9, .int .i64 q), (10, .int .i64 mo), (11, .int .i64 le), (12, .bool nb), (13, .int .i64 (cd : Nat)), (79, .bool (decide (q < 0)))] a' → Q .normal a' w) : ∀ ac, Frm 150 [(1, .bool hole), (2, .pointer (some ⟨wo.heap.size, 0, none⟩)), (4, .pointer (some ⟨wo.heap.size + 1, 0, none⟩)), (5, v), (6, .int .i64 (n : Nat)), (7, .pointer (some ⟨gx, 0, none⟩)), (8, .pointer (some ⟨gg, 0, none⟩)), (9, .int .i64 q), (10, .int .i64 mo), (11, .int .i64 le), (12, .bool nb), (13, .int .i64 (cd : Nat))] ac → Code.wp Tryd.prog c_of_r20 Q ac w := by
  refine frm_open ?_
  refine frame_of ?_
  intros
  rename_i hq
  obtain ⟨-, -, e0q, e1q, e2q, e3q, e4q, e5q, e6q, e7q, e8q, e9q, e10q, e11q, -⟩ := hq
  obtain rfl := sI e0q
  obtain rfl := sI e1q
  obtain rfl := sI e2q
  obtain rfl := sI e3q
  obtain rfl := sI e4q
  obtain rfl := sI e5q
  obtain rfl := sI e6q
  obtain rfl := sI e7q
  obtain rfl := sI e8q
  obtain rfl := sI e9q
  obtain rfl := sI e10q
  obtain rfl := sI e11q
  conv => arg 2; whnf
  by_cases h : q < 0
  · have t1 : decide (q < 0) = true := by first | exact decide_eq_true (by omega) | exact beq_iff_eq.2 (by omega) | exact bne_iff_ne.2 (by omega)
    have t2 : (decide (q < 0)) = true := decide_eq_true h
    rw [t2] at hN
    clear h
    have HN := Lib.hid hN
    clear hN
    go_wp2_with fail
    exact HN.out _ (id ⟨rfl, rfl, rfl, rfl, rfl, rfl, rfl, rfl, rfl, rfl, rfl, rfl, rfl, rfl, rfl, trivial⟩)
  · have t1 : decide (q < 0) = false := by first | exact decide_eq_false (by omega) | exact beq_eq_false_iff_ne.2 (by omega) | exact bne_eq_false_iff_eq.2 (by omega)
    have t2 : (decide (q < 0)) = false := decide_eq_false h
    rw [t2] at hN
    clear h
    have HN := Lib.hid hN
    clear hN
    go_wp2_with fail
    exact HN.out _ (id ⟨rfl, rfl, rfl, rfl, rfl, rfl, rfl, rfl, rfl, rfl, rfl, rfl, rfl, rfl, rfl, trivial⟩)
noncomputable def c_of_r22 : Code := sub [1, 1, 0, 1, 0, 0, 1, 0, 0, 1, 1, 1, 1, 1, 1, 1, 1, 1, 1, 0, 1, 1, 1, 1, 0] (Tryd.f38.body.getD .skip)
set_option maxRecDepth 1000000 in
set_option maxHeartbeats 16000000 in
theorem of_r22_wp {Q : Exit → Act → World → Prop} {q mo le : Int} {nb : Bool} {cd : Nat} {S : Nat → Prop} {hole : Bool} {n gx gg d : Nat} {v : Value} {L : List FmAt} {wo w : World} {kd : Int} {nm : ByteArray} {A B : Option Addr} {n1 c1 n2 c2 : Nat} (hs : RD S wo w v L gx gg kd nm A n1 c1 B n2 c2 d) (hN : ∀ a', Frm 150 [(1, .bool hole), (2, .pointer (some ⟨wo.heap.size, 0, none⟩)), (4, .pointer (some ⟨wo.heap.size + 1, 0, none⟩)), (5, v), (6, .int .i64 (n : Nat)), (7, .pointer (some ⟨gx, 0, none⟩)), (8, .pointer (some ⟨gg, 0, none⟩)), (9, .int .i64 q), (10, .int .i64 mo), (11, .int .i64 le), (12, .bool nb), (13, .int .i64 (cd : Nat)), (98, .bool (decide ((n2 : Int) ≠ q) || decide ((n1 : Int) < le) || decide (mo < (n1 : Int))))] a' → Q .normal a' w) : ∀ ac, Frm 150 [(1, .bool hole), (2, .pointer (some ⟨wo.heap.size, 0, none⟩)), (4, .pointer (some ⟨wo.heap.size + 1, 0, none⟩)), (5, v), (6, .int .i64 (n : Nat)), (7, .pointer (some ⟨gx, 0, none⟩)), (8, .pointer (some ⟨gg, 0, none⟩)), (9, .int .i64 q), (10, .int .i64 mo), (11, .int .i64 le), (12, .bool nb), (13, .int .i64 (cd : Nat))] ac → Code.wp Tryd.prog c_of_r22 Q ac w := by
  refine frm_open ?_
  refine frame_of ?_
  intros
  rename_i hq
  obtain ⟨-, -, e0q, e1q, e2q, e3q, e4q, e5q, e6q, e7q, e8q, e9q, e10q, e11q, -⟩ := hq
  obtain rfl := sI e0q
  obtain rfl := sI e1q
  obtain rfl := sI e2q
  obtain rfl := sI e3q
  obtain rfl := sI e4q
  obtain rfl := sI e5q
  obtain rfl := sI e6q
  obtain rfl := sI e7q
  obtain rfl := sI e8q
  obtain rfl := sI e9q
  obtain rfl := sI e10q
  obtain rfl := sI e11q
  conv => arg 2; whnf
  have g0 := cellv hs.g 0 rfl
  have g1 := cellv hs.g 1 rfl
  have g2 := cellv hs.g 2 rfl
  have g3 := cellv hs.g 3 rfl
  have gl := lt_heap hs.g
  have HS := Lib.hid hs
  clear hs
  by_cases h1 : (n2 : Int) = q
  case neg =>
    have t1 : ((n2 : Int) != q) = true := bne_iff_ne.2 h1
    rw [show (decide ((n2 : Int) ≠ q) || decide ((n1 : Int) < le) || decide (mo < (n1 : Int))) = true from by simp [h1]] at hN
    clear h1
    have HN := Lib.hid hN
    clear hN
    go_wp2_with fail
    exact HN.out _ (id ⟨rfl, rfl, rfl, rfl, rfl, rfl, rfl, rfl, rfl, rfl, rfl, rfl, rfl, rfl, rfl, trivial⟩)
  have t1 : ((n2 : Int) != q) = false := by rw [bne_eq_false_iff_eq]; exact h1
  by_cases h2 : (n1 : Int) < le
  · have t2 : decide ((n1 : Int) < le) = true := decide_eq_true h2
    rw [show (decide ((n2 : Int) ≠ q) || decide ((n1 : Int) < le) || decide (mo < (n1 : Int))) = true from by simp [h2]] at hN
    clear h1 h2
    have HN := Lib.hid hN
    clear hN
    go_wp2_with fail
    exact HN.out _ (id ⟨rfl, rfl, rfl, rfl, rfl, rfl, rfl, rfl, rfl, rfl, rfl, rfl, rfl, rfl, rfl, trivial⟩)
  have t2 : decide ((n1 : Int) < le) = false := decide_eq_false h2
  by_cases h3 : mo < (n1 : Int)
  · have t3 : decide (mo < (n1 : Int)) = true := decide_eq_true h3
    rw [show (decide ((n2 : Int) ≠ q) || decide ((n1 : Int) < le) || decide (mo < (n1 : Int))) = true from by simp [h3]] at hN
    clear h1 h2 h3
    have HN := Lib.hid hN
    clear hN
    go_wp2_with fail
    exact HN.out _ (id ⟨rfl, rfl, rfl, rfl, rfl, rfl, rfl, rfl, rfl, rfl, rfl, rfl, rfl, rfl, rfl, trivial⟩)
  have t3 : decide (mo < (n1 : Int)) = false := decide_eq_false h3
  rw [show (decide ((n2 : Int) ≠ q) || decide ((n1 : Int) < le) || decide (mo < (n1 : Int))) = false from by simp only [t2, t3, Bool.or_false]; exact decide_eq_false (fun h => h h1)] at hN
  clear h1 h2 h3
  have HN := Lib.hid hN
  clear hN
  go_wp2_with fail
  exact HN.out _ (id ⟨rfl, rfl, rfl, rfl, rfl, rfl, rfl, rfl, rfl, rfl, rfl, rfl, rfl, rfl, rfl, trivial⟩)
noncomputable def c_of_r24 : Code := sub [1, 1, 0, 1, 0, 0, 1, 0, 0, 1, 1, 1, 1, 1, 1, 1, 1, 1, 1, 0, 1, 1, 1, 1, 1, 1, 0] (Tryd.f38.body.getD .skip)
set_option maxRecDepth 1000000 in
set_option maxHeartbeats 16000000 in
theorem of_r24_wp {Q : Exit → Act → World → Prop} {q mo le : Int} {nb : Bool} {cd : Nat} {S : Nat → Prop} {hole : Bool} {n gx gg d : Nat} {v : Value} {L : List FmAt} {wo w : World} {kd : Int} {nm : ByteArray} {A B : Option Addr} {n1 c1 n2 c2 : Nat} (hn : nm.size ≤ maxLen) (hs : RD S wo w v L gx gg kd nm A n1 c1 B n2 c2 d) (hN : ∀ a', Frm 150 [(1, .bool hole), (2, .pointer (some ⟨wo.heap.size, 0, none⟩)), (4, .pointer (some ⟨wo.heap.size + 1, 0, none⟩)), (5, v), (6, .int .i64 (n : Nat)), (7, .pointer (some ⟨gx, 0, none⟩)), (8, .pointer (some ⟨gg, 0, none⟩)), (9, .int .i64 q), (10, .int .i64 mo), (11, .int .i64 le), (12, .bool nb), (13, .int .i64 (cd : Nat)), (105, .bool (nb && !okName nm))] a' → Q .normal a' w) : ∀ ac, Frm 150 [(1, .bool hole), (2, .pointer (some ⟨wo.heap.size, 0, none⟩)), (4, .pointer (some ⟨wo.heap.size + 1, 0, none⟩)), (5, v), (6, .int .i64 (n : Nat)), (7, .pointer (some ⟨gx, 0, none⟩)), (8, .pointer (some ⟨gg, 0, none⟩)), (9, .int .i64 q), (10, .int .i64 mo), (11, .int .i64 le), (12, .bool nb), (13, .int .i64 (cd : Nat))] ac → Code.wp Tryd.prog c_of_r24 Q ac w := by
  refine frm_open ?_
  refine frame_of ?_
  intros
  rename_i hq
  obtain ⟨-, -, e0q, e1q, e2q, e3q, e4q, e5q, e6q, e7q, e8q, e9q, e10q, e11q, -⟩ := hq
  obtain rfl := sI e0q
  obtain rfl := sI e1q
  obtain rfl := sI e2q
  obtain rfl := sI e3q
  obtain rfl := sI e4q
  obtain rfl := sI e5q
  obtain rfl := sI e6q
  obtain rfl := sI e7q
  obtain rfl := sI e8q
  obtain rfl := sI e9q
  obtain rfl := sI e10q
  obtain rfl := sI e11q
  conv => arg 2; whnf
  have g0 := cellv hs.g 0 rfl
  have g1 := cellv hs.g 1 rfl
  have g2 := cellv hs.g 2 rfl
  have g3 := cellv hs.g 3 rfl
  have gl := lt_heap hs.g
  have hnm := refName_any nm w hn
  have HS := Lib.hid hs
  clear hs
  have HNM := Lib.hid hnm
  clear hnm
  cases nb
  · rw [show (false && !okName nm) = false from rfl] at hN
    have HN := Lib.hid hN
    clear hN
    go_wp2_with fail
    exact HN.out _ (id ⟨rfl, rfl, rfl, rfl, rfl, rfl, rfl, rfl, rfl, rfl, rfl, rfl, rfl, rfl, rfl, trivial⟩)
  · rw [show (true && !okName nm) = !okName nm from by simp] at hN
    have HN := Lib.hid hN
    clear hN
    go_wp2_with fail
    (with_reducible refine HNM.out.mono ?_)
    rintro e w1 ⟨rfl, rfl⟩
    go_wp2_with fail
    exact HN.out _ (id ⟨rfl, rfl, rfl, rfl, rfl, rfl, rfl, rfl, rfl, rfl, rfl, rfl, rfl, rfl, rfl, trivial⟩)
noncomputable def c_of_r26 : Code := sub [1, 1, 0, 1, 0, 0, 1, 0, 0, 1, 1, 1, 1, 1, 1, 1, 1, 1, 1, 0, 1, 1, 1, 1, 1, 1, 1, 1, 0] (Tryd.f38.body.getD .skip)
set_option maxRecDepth 1000000 in
set_option maxHeartbeats 16000000 in
theorem of_r26_wp {Q : Exit → Act → World → Prop} {q mo le : Int} {nb : Bool} {cd : Nat} {S : Nat → Prop} {hole : Bool} {n gx gg d : Nat} {v : Value} {L : List FmAt} {wo w : World} {kd : Int} {nm : ByteArray} {A B : Option Addr} {n1 c1 n2 c2 : Nat} (hs : RD S wo w v L gx gg kd nm A n1 c1 B n2 c2 d) (hN : ∀ a', Frm 150 [(1, .bool hole), (2, .pointer (some ⟨wo.heap.size, 0, none⟩)), (4, .pointer (some ⟨wo.heap.size + 1, 0, none⟩)), (5, v), (6, .int .i64 (n : Nat)), (7, .pointer (some ⟨gx, 0, none⟩)), (8, .pointer (some ⟨gg, 0, none⟩)), (9, .int .i64 q), (10, .int .i64 mo), (11, .int .i64 le), (12, .bool nb), (13, .int .i64 (cd : Nat)), (112, .bool (!nb && decide (nm ≠ bNilF)))] a' → Q .normal a' w) : ∀ ac, Frm 150 [(1, .bool hole), (2, .pointer (some ⟨wo.heap.size, 0, none⟩)), (4, .pointer (some ⟨wo.heap.size + 1, 0, none⟩)), (5, v), (6, .int .i64 (n : Nat)), (7, .pointer (some ⟨gx, 0, none⟩)), (8, .pointer (some ⟨gg, 0, none⟩)), (9, .int .i64 q), (10, .int .i64 mo), (11, .int .i64 le), (12, .bool nb), (13, .int .i64 (cd : Nat))] ac → Code.wp Tryd.prog c_of_r26 Q ac w := by
  refine frm_open ?_
  refine frame_of ?_
  intros
  rename_i hq
  obtain ⟨-, -, e0q, e1q, e2q, e3q, e4q, e5q, e6q, e7q, e8q, e9q, e10q, e11q, -⟩ := hq
  obtain rfl := sI e0q
  obtain rfl := sI e1q
  obtain rfl := sI e2q
  obtain rfl := sI e3q
  obtain rfl := sI e4q
  obtain rfl := sI e5q
  obtain rfl := sI e6q
  obtain rfl := sI e7q
  obtain rfl := sI e8q
  obtain rfl := sI e9q
  obtain rfl := sI e10q
  obtain rfl := sI e11q
  conv => arg 2; whnf
  have g0 := cellv hs.g 0 rfl
  have g1 := cellv hs.g 1 rfl
  have g2 := cellv hs.g 2 rfl
  have g3 := cellv hs.g 3 rfl
  have gl := lt_heap hs.g
  have HS := Lib.hid hs
  clear hs
  cases nb
  case true =>
    rw [show (!true && decide (nm ≠ bNilF)) = false from rfl] at hN
    have HN := Lib.hid hN
    clear hN
    go_wp2_with fail
    exact HN.out _ (id ⟨rfl, rfl, rfl, rfl, rfl, rfl, rfl, rfl, rfl, rfl, rfl, rfl, rfl, rfl, rfl, trivial⟩)
  rw [show (!false && decide (nm ≠ bNilF)) = decide (nm ≠ bNilF) from by simp] at hN
  by_cases hz : nm = bNilF
  · subst hz
    have t1 : bNilF.toList.isEmpty = true := by simp [ByteArray.toList_eq, bNilF]
    rw [show decide (bNilF ≠ bNilF) = false from decide_eq_false (fun h => h rfl)] at hN
    have HN := Lib.hid hN
    clear hN
    go_wp2_with fail
    exact HN.out _ (id ⟨rfl, rfl, rfl, rfl, rfl, rfl, rfl, rfl, rfl, rfl, rfl, rfl, rfl, rfl, rfl, trivial⟩)
  · have t1 : nm.toList.isEmpty = false := by
      cases e : nm.toList.isEmpty
      · rfl
      · exact absurd (bytes_inj (by rw [List.isEmpty_iff.1 e]; simp [bNilF])) hz
    rw [show decide (nm ≠ bNilF) = true from decide_eq_true hz] at hN
    clear hz
    have HN := Lib.hid hN
    clear hN
    go_wp2_with fail
    exact HN.out _ (id ⟨rfl, rfl, rfl, rfl, rfl, rfl, rfl, rfl, rfl, rfl, rfl, rfl, rfl, rfl, rfl, trivial⟩)
noncomputable def c_of_r28 : Code := sub [1, 1, 0, 1, 0, 0, 1, 0, 0, 1, 1, 1, 1, 1, 1, 1, 1, 1, 1, 0, 1, 1, 1, 1, 1, 1, 1, 1, 1, 1, 0] (Tryd.f38.body.getD .skip)
set_option maxRecDepth 1000000 in
set_option maxHeartbeats 16000000 in
theorem of_r28_wp {Q : Exit → Act → World → Prop} {q mo le : Int} {nb : Bool} {cd : Nat} {S : Nat → Prop} {hole : Bool} {n gx gg d : Nat} {v : Value} {L : List FmAt} {wo w : World} {kd : Int} {nm : ByteArray} {A B : Option Addr} {n1 c1 n2 c2 : Nat} (hs : RD S wo w v L gx gg kd nm A n1 c1 B n2 c2 d) (hN : ∀ a', Frm 150 [(1, .bool hole), (2, .pointer (some ⟨wo.heap.size, 0, none⟩)), (4, .pointer (some ⟨wo.heap.size + 1, 0, none⟩)), (5, v), (6, .int .i64 (n : Nat)), (7, .pointer (some ⟨gx, 0, none⟩)), (8, .pointer (some ⟨gg, 0, none⟩)), (9, .int .i64 q), (10, .int .i64 mo), (11, .int .i64 le), (12, .bool nb), (13, .int .i64 (cd : Nat)), (114, .slice A n1 c1), (115, .int .i64 (n1 : Nat)), (116, .int .i64 (0 : Nat))] a' → Q .normal a' w) : ∀ ac, Frm 150 [(1, .bool hole), (2, .pointer (some ⟨wo.heap.size, 0, none⟩)), (4, .pointer (some ⟨wo.heap.size + 1, 0, none⟩)), (5, v), (6, .int .i64 (n : Nat)), (7, .pointer (some ⟨gx, 0, none⟩)), (8, .pointer (some ⟨gg, 0, none⟩)), (9, .int .i64 q), (10, .int .i64 mo), (11, .int .i64 le), (12, .bool nb), (13, .int .i64 (cd : Nat))] ac → Code.wp Tryd.prog c_of_r28 Q ac w := by
  refine frm_open ?_
  refine frame_of ?_
  intros
  rename_i hq
  obtain ⟨-, -, e0q, e1q, e2q, e3q, e4q, e5q, e6q, e7q, e8q, e9q, e10q, e11q, -⟩ := hq
  obtain rfl := sI e0q
  obtain rfl := sI e1q
  obtain rfl := sI e2q
  obtain rfl := sI e3q
  obtain rfl := sI e4q
  obtain rfl := sI e5q
  obtain rfl := sI e6q
  obtain rfl := sI e7q
  obtain rfl := sI e8q
  obtain rfl := sI e9q
  obtain rfl := sI e10q
  obtain rfl := sI e11q
  conv => arg 2; whnf
  have g0 := cellv hs.g 0 rfl
  have g1 := cellv hs.g 1 rfl
  have g2 := cellv hs.g 2 rfl
  have g3 := cellv hs.g 3 rfl
  have gl := lt_heap hs.g
  have HS := Lib.hid hs
  clear hs
  have HN := Lib.hid hN
  clear hN
  go_wp2_with fail
  exact HN.out _ (id ⟨rfl, rfl, rfl, rfl, rfl, rfl, rfl, rfl, rfl, rfl, rfl, rfl, rfl, rfl, rfl, rfl, rfl, trivial⟩)
noncomputable def c_of_r29 : Code := sub [1, 1, 0, 1, 0, 0, 1, 0, 0, 1, 1, 1, 1, 1, 1, 1, 1, 1, 1, 0, 1, 1, 1, 1, 1, 1, 1, 1, 1, 1, 1, 0, 0, 0] (Tryd.f38.body.getD .skip)
set_option maxRecDepth 1000000 in
set_option maxHeartbeats 16000000 in
theorem of_r29_wp {Q : Exit → Act → World → Prop} {q mo le : Int} {nb : Bool} {cd : Nat} {hole : Bool} {n gx gg : Nat} {v : Value} {wo w : World} {A : Option Addr} {n1 c1 i : Nat} (hN : ∀ a', Frm 150 [(1, .bool hole), (2, .pointer (some ⟨wo.heap.size, 0, none⟩)), (4, .pointer (some ⟨wo.heap.size + 1, 0, none⟩)), (5, v), (6, .int .i64 (n : Nat)), (7, .pointer (some ⟨gx, 0, none⟩)), (8, .pointer (some ⟨gg, 0, none⟩)), (9, .int .i64 q), (10, .int .i64 mo), (11, .int .i64 le), (12, .bool nb), (13, .int .i64 (cd : Nat)), (114, .slice A n1 c1), (115, .int .i64 (n1 : Nat)), (116, .int .i64 (i : Nat)), (117, .bool (decide (i < n1)))] a' → Q .normal a' w) : ∀ ac, Frm 150 [(1, .bool hole), (2, .pointer (some ⟨wo.heap.size, 0, none⟩)), (4, .pointer (some ⟨wo.heap.size + 1, 0, none⟩)), (5, v), (6, .int .i64 (n : Nat)), (7, .pointer (some ⟨gx, 0, none⟩)), (8, .pointer (some ⟨gg, 0, none⟩)), (9, .int .i64 q), (10, .int .i64 mo), (11, .int .i64 le), (12, .bool nb), (13, .int .i64 (cd : Nat)), (114, .slice A n1 c1), (115, .int .i64 (n1 : Nat)), (116, .int .i64 (i : Nat))] ac → Code.wp Tryd.prog c_of_r29 Q ac w := by
  refine frm_open ?_
  refine frame_of ?_
  intros
  rename_i hq
  obtain ⟨-, -, e0q, e1q, e2q, e3q, e4q, e5q, e6q, e7q, e8q, e9q, e10q, e11q, e12q, e13q, e14q, -⟩ := hq
  obtain rfl := sI e0q
  obtain rfl := sI e1q
  obtain rfl := sI e2q
  obtain rfl := sI e3q
  obtain rfl := sI e4q
  obtain rfl := sI e5q
  obtain rfl := sI e6q
  obtain rfl := sI e7q
  obtain rfl := sI e8q
  obtain rfl := sI e9q
  obtain rfl := sI e10q
  obtain rfl := sI e11q
  obtain rfl := sI e12q
  obtain rfl := sI e13q
  obtain rfl := sI e14q
  conv => arg 2; whnf
  by_cases h : i < n1
  · have t1 : decide ((i : Int) < (n1 : Int)) = true := by first | exact decide_eq_true (by omega) | exact beq_iff_eq.2 (by omega) | exact bne_iff_ne.2 (by omega)
    have t2 : (decide (i < n1)) = true := decide_eq_true h
    rw [t2] at hN
    clear h
    have HN := Lib.hid hN
    clear hN
    go_wp2_with fail
    exact HN.out _ (id ⟨rfl, rfl, rfl, rfl, rfl, rfl, rfl, rfl, rfl, rfl, rfl, rfl, rfl, rfl, rfl, rfl, rfl, rfl, trivial⟩)
  · have t1 : decide ((i : Int) < (n1 : Int)) = false := by first | exact decide_eq_false (by omega) | exact beq_eq_false_iff_ne.2 (by omega) | exact bne_eq_false_iff_eq.2 (by omega)
    have t2 : (decide (i < n1)) = false := decide_eq_false h
    rw [t2] at hN
    clear h
    have HN := Lib.hid hN
    clear hN
    go_wp2_with fail
    exact HN.out _ (id ⟨rfl, rfl, rfl, rfl, rfl, rfl, rfl, rfl, rfl, rfl, rfl, rfl, rfl, rfl, rfl, rfl, rfl, rfl, trivial⟩)
noncomputable def c_of_r30 : Code := sub [1, 1, 0, 1, 0, 0, 1, 0, 0, 1, 1, 1, 1, 1, 1, 1, 1, 1, 1, 0, 1, 1, 1, 1, 1, 1, 1, 1, 1, 1, 1, 0, 0, 1, 1, 0, 0, 0] (Tryd.f38.body.getD .skip)
set_option maxRecDepth 1000000 in
set_option maxHeartbeats 16000000 in
theorem of_r30_wp {Q : Exit → Act → World → Prop} {q mo le : Int} {nb : Bool} {cd : Nat} {hole : Bool} {n gx gg : Nat} {v : Value} {wo w : World} {n1 c1 i b o : Nat} {s : ByteArray} (hi : i < n1) (hc : w.cell? ⟨b, o + i, none⟩ = some (.string s)) (hbl : b < w.heap.size) (hN : ∀ a', Frm 150 [(1, .bool hole), (2, .pointer (some ⟨wo.heap.size, 0, none⟩)), (4, .pointer (some ⟨wo.heap.size + 1, 0, none⟩)), (5, v), (6, .int .i64 (n : Nat)), (7, .pointer (some ⟨gx, 0, none⟩)), (8, .pointer (some ⟨gg, 0, none⟩)), (9, .int .i64 q), (10, .int .i64 mo), (11, .int .i64 le), (12, .bool nb), (13, .int .i64 (cd : Nat)), (114, .slice (some ⟨b, o, none⟩) n1 c1), (115, .int .i64 (n1 : Nat)), (116, .int .i64 (i : Nat)), (15, .string s)] a' → Q .normal a' w) : ∀ ac, Frm 150 [(1, .bool hole), (2, .pointer (some ⟨wo.heap.size, 0, none⟩)), (4, .pointer (some ⟨wo.heap.size + 1, 0, none⟩)), (5, v), (6, .int .i64 (n : Nat)), (7, .pointer (some ⟨gx, 0, none⟩)), (8, .pointer (some ⟨gg, 0, none⟩)), (9, .int .i64 q), (10, .int .i64 mo), (11, .int .i64 le), (12, .bool nb), (13, .int .i64 (cd : Nat)), (114, .slice (some ⟨b, o, none⟩) n1 c1), (115, .int .i64 (n1 : Nat)), (116, .int .i64 (i : Nat))] ac → Code.wp Tryd.prog c_of_r30 Q ac w := by
  refine frm_open ?_
  refine frame_of ?_
  intros
  rename_i hq
  obtain ⟨-, -, e0q, e1q, e2q, e3q, e4q, e5q, e6q, e7q, e8q, e9q, e10q, e11q, e12q, e13q, e14q, -⟩ := hq
  obtain rfl := sI e0q
  obtain rfl := sI e1q
  obtain rfl := sI e2q
  obtain rfl := sI e3q
  obtain rfl := sI e4q
  obtain rfl := sI e5q
  obtain rfl := sI e6q
  obtain rfl := sI e7q
  obtain rfl := sI e8q
  obtain rfl := sI e9q
  obtain rfl := sI e10q
  obtain rfl := sI e11q
  obtain rfl := sI e12q
  obtain rfl := sI e13q
  obtain rfl := sI e14q
  conv => arg 2; whnf
  have q0 : (0 : Int) ≤ (i : Int) := by omega
  have q1 : (i : Int) < (n1 : Int) := by omega
  have HN := Lib.hid hN
  clear hN
  go_wp2_with fail
  exact HN.out _ (id ⟨rfl, rfl, rfl, rfl, rfl, rfl, rfl, rfl, rfl, rfl, rfl, rfl, rfl, rfl, rfl, rfl, rfl, rfl, trivial⟩)
noncomputable def c_of_r31 : Code := sub [1, 1, 0, 1, 0, 0, 1, 0, 0, 1, 1, 1, 1, 1, 1, 1, 1, 1, 1, 0, 1, 1, 1, 1, 1, 1, 1, 1, 1, 1, 1, 0, 0, 1, 1, 0, 0, 1, 0] (Tryd.f38.body.getD .skip)
set_option maxRecDepth 1000000 in
set_option maxHeartbeats 16000000 in
theorem of_r31_wp {Q : Exit → Act → World → Prop} {q mo le : Int} {nb : Bool} {cd : Nat} {hole : Bool} {n gx gg : Nat} {v : Value} {wo w : World} {A : Option Addr} {n1 c1 i : Nat} {s : ByteArray} (hsz : s.size ≤ maxLen) (hN : ∀ a', Frm 150 [(1, .bool hole), (2, .pointer (some ⟨wo.heap.size, 0, none⟩)), (4, .pointer (some ⟨wo.heap.size + 1, 0, none⟩)), (5, v), (6, .int .i64 (n : Nat)), (7, .pointer (some ⟨gx, 0, none⟩)), (8, .pointer (some ⟨gg, 0, none⟩)), (9, .int .i64 q), (10, .int .i64 mo), (11, .int .i64 le), (12, .bool nb), (13, .int .i64 (cd : Nat)), (114, .slice A n1 c1), (115, .int .i64 (n1 : Nat)), (116, .int .i64 (i : Nat)), (15, .string s), (122, .bool (!okName s))] a' → Q .normal a' w) : ∀ ac, Frm 150 [(1, .bool hole), (2, .pointer (some ⟨wo.heap.size, 0, none⟩)), (4, .pointer (some ⟨wo.heap.size + 1, 0, none⟩)), (5, v), (6, .int .i64 (n : Nat)), (7, .pointer (some ⟨gx, 0, none⟩)), (8, .pointer (some ⟨gg, 0, none⟩)), (9, .int .i64 q), (10, .int .i64 mo), (11, .int .i64 le), (12, .bool nb), (13, .int .i64 (cd : Nat)), (114, .slice A n1 c1), (115, .int .i64 (n1 : Nat)), (116, .int .i64 (i : Nat)), (15, .string s)] ac → Code.wp Tryd.prog c_of_r31 Q ac w := by
  refine frm_open ?_
  refine frame_of ?_
  intros
  rename_i hq
  obtain ⟨-, -, e0q, e1q, e2q, e3q, e4q, e5q, e6q, e7q, e8q, e9q, e10q, e11q, e12q, e13q, e14q, e15q, -⟩ := hq
  obtain rfl := sI e0q
  obtain rfl := sI e1q
  obtain rfl := sI e2q
  obtain rfl := sI e3q
  obtain rfl := sI e4q
  obtain rfl := sI e5q
  obtain rfl := sI e6q
  obtain rfl := sI e7q
  obtain rfl := sI e8q
  obtain rfl := sI e9q
  obtain rfl := sI e10q
  obtain rfl := sI e11q
  obtain rfl := sI e12q
  obtain rfl := sI e13q
  obtain rfl := sI e14q
  obtain rfl := sI e15q
  conv => arg 2; whnf
  have hnm := refName_any s w hsz
  have HN := Lib.hid hN
  have HNM := Lib.hid hnm
  clear hN hnm
  go_wp2_with fail
  (with_reducible refine HNM.out.mono ?_)
  rintro e w1 ⟨rfl, rfl⟩
  go_wp2_with fail
  exact HN.out _ (id ⟨rfl, rfl, rfl, rfl, rfl, rfl, rfl, rfl, rfl, rfl, rfl, rfl, rfl, rfl, rfl, rfl, rfl, rfl, rfl, trivial⟩)
noncomputable def c_of_r32 : Code := sub [1, 1, 0, 1, 0, 0, 1, 0, 0, 1, 1, 1, 1, 1, 1, 1, 1, 1, 1, 0, 1, 1, 1, 1, 1, 1, 1, 1, 1, 1, 1, 0, 0, 1, 1, 0, 0, 1, 1, 0] (Tryd.f38.body.getD .skip)
set_option maxRecDepth 1000000 in
set_option maxHeartbeats 16000000 in
theorem of_r32_wp {Q : Exit → Act → World → Prop} {q mo le : Int} {nb : Bool} {cd : Nat} {hole : Bool} {n gx gg : Nat} {v : Value} {wo w : World} {A : Option Addr} {n1 c1 i : Nat} {s : ByteArray} (hN : ∀ a', Frm 150 [(1, .bool hole), (2, .pointer (some ⟨wo.heap.size, 0, none⟩)), (4, .pointer (some ⟨wo.heap.size + 1, 0, none⟩)), (5, v), (6, .int .i64 (n : Nat)), (7, .pointer (some ⟨gx, 0, none⟩)), (8, .pointer (some ⟨gg, 0, none⟩)), (9, .int .i64 q), (10, .int .i64 mo), (11, .int .i64 le), (12, .bool nb), (13, .int .i64 (10 : Nat)), (114, .slice A n1 c1), (115, .int .i64 (n1 : Nat)), (116, .int .i64 (i : Nat)), (15, .string s)] a' → Q .normal a' w) : ∀ ac, Frm 150 [(1, .bool hole), (2, .pointer (some ⟨wo.heap.size, 0, none⟩)), (4, .pointer (some ⟨wo.heap.size + 1, 0, none⟩)), (5, v), (6, .int .i64 (n : Nat)), (7, .pointer (some ⟨gx, 0, none⟩)), (8, .pointer (some ⟨gg, 0, none⟩)), (9, .int .i64 q), (10, .int .i64 mo), (11, .int .i64 le), (12, .bool nb), (13, .int .i64 (cd : Nat)), (114, .slice A n1 c1), (115, .int .i64 (n1 : Nat)), (116, .int .i64 (i : Nat)), (15, .string s)] ac → Code.wp Tryd.prog c_of_r32 Q ac w := by
  refine frm_open ?_
  refine frame_of ?_
  intros
  rename_i hq
  obtain ⟨-, -, e0q, e1q, e2q, e3q, e4q, e5q, e6q, e7q, e8q, e9q, e10q, e11q, e12q, e13q, e14q, e15q, -⟩ := hq
  obtain rfl := sI e0q
  obtain rfl := sI e1q
  obtain rfl := sI e2q
  obtain rfl := sI e3q
  obtain rfl := sI e4q
  obtain rfl := sI e5q
  obtain rfl := sI e6q
  obtain rfl := sI e7q
  obtain rfl := sI e8q
  obtain rfl := sI e9q
  obtain rfl := sI e10q
  obtain rfl := sI e11q
  obtain rfl := sI e12q
  obtain rfl := sI e13q
  obtain rfl := sI e14q
  obtain rfl := sI e15q
  conv => arg 2; whnf
  have HN := Lib.hid hN
  clear hN
  go_wp2_with fail
  exact HN.out _ (id ⟨rfl, rfl, rfl, rfl, rfl, rfl, rfl, rfl, rfl, rfl, rfl, rfl, rfl, rfl, rfl, rfl, rfl, rfl, trivial⟩)
noncomputable def c_of_r33 : Code := sub [1, 1, 0, 1, 0, 0, 1, 0, 0, 1, 1, 1, 1, 1, 1, 1, 1, 1, 1, 0, 1, 1, 1, 1, 1, 1, 1, 1, 1, 1, 1, 0, 0, 1, 1, 1] (Tryd.f38.body.getD .skip)
set_option maxRecDepth 1000000 in
set_option maxHeartbeats 16000000 in
theorem of_r33_wp {Q : Exit → Act → World → Prop} {q mo le : Int} {nb : Bool} {cd : Nat} {hole : Bool} {n gx gg : Nat} {v : Value} {wo w : World} {A : Option Addr} {n1 c1 i : Nat} (hi : i < n1) (hlim : n1 ≤ maxLen) (hN : ∀ a', Frm 150 [(1, .bool hole), (2, .pointer (some ⟨wo.heap.size, 0, none⟩)), (4, .pointer (some ⟨wo.heap.size + 1, 0, none⟩)), (5, v), (6, .int .i64 (n : Nat)), (7, .pointer (some ⟨gx, 0, none⟩)), (8, .pointer (some ⟨gg, 0, none⟩)), (9, .int .i64 q), (10, .int .i64 mo), (11, .int .i64 le), (12, .bool nb), (13, .int .i64 (cd : Nat)), (114, .slice A n1 c1), (115, .int .i64 (n1 : Nat)), (116, .int .i64 (i + 1 : Nat))] a' → Q .normal a' w) : ∀ ac, Frm 150 [(1, .bool hole), (2, .pointer (some ⟨wo.heap.size, 0, none⟩)), (4, .pointer (some ⟨wo.heap.size + 1, 0, none⟩)), (5, v), (6, .int .i64 (n : Nat)), (7, .pointer (some ⟨gx, 0, none⟩)), (8, .pointer (some ⟨gg, 0, none⟩)), (9, .int .i64 q), (10, .int .i64 mo), (11, .int .i64 le), (12, .bool nb), (13, .int .i64 (cd : Nat)), (114, .slice A n1 c1), (115, .int .i64 (n1 : Nat)), (116, .int .i64 (i : Nat))] ac → Code.wp Tryd.prog c_of_r33 Q ac w := by
  refine frm_open ?_
  refine frame_of ?_
  intros
  rename_i hq
  obtain ⟨-, -, e0q, e1q, e2q, e3q, e4q, e5q, e6q, e7q, e8q, e9q, e10q, e11q, e12q, e13q, e14q, -⟩ := hq
  obtain rfl := sI e0q
  obtain rfl := sI e1q
  obtain rfl := sI e2q
  obtain rfl := sI e3q
  obtain rfl := sI e4q
  obtain rfl := sI e5q
  obtain rfl := sI e6q
  obtain rfl := sI e7q
  obtain rfl := sI e8q
  obtain rfl := sI e9q
  obtain rfl := sI e10q
  obtain rfl := sI e11q
  obtain rfl := sI e12q
  obtain rfl := sI e13q
  obtain rfl := sI e14q
  conv => arg 2; whnf
  have hi4 : (i : Int) ≤ 9223372036854775806 := by unfold maxLen at hlim; omega
  have HN := Lib.hid hN
  clear hN
  go_wp2_with fail
  exact HN.out _ (id ⟨rfl, rfl, rfl, rfl, rfl, rfl, rfl, rfl, rfl, rfl, rfl, rfl, rfl, rfl, rfl, rfl, rfl, trivial⟩)
noncomputable def c_of_r34 : Code := sub [1, 1, 0, 1, 0, 0, 1, 0, 0, 1, 1, 1, 1, 1, 1, 1, 1, 1, 1, 1, 0, 0] (Tryd.f38.body.getD .skip)
set_option maxRecDepth 1000000 in
set_option maxHeartbeats 16000000 in
theorem of_r34_wp {Q : Exit → Act → World → Prop} {cd : Nat} {hole : Bool} {n gx gg : Nat} {v : Value} {wo w : World} (hN : ∀ a', Frm 150 [(1, .bool hole), (2, .pointer (some ⟨wo.heap.size, 0, none⟩)), (4, .pointer (some ⟨wo.heap.size + 1, 0, none⟩)), (5, v), (6, .int .i64 (n : Nat)), (7, .pointer (some ⟨gx, 0, none⟩)), (8, .pointer (some ⟨gg, 0, none⟩)), (13, .int .i64 (cd : Nat)), (125, .bool (decide (cd ≠ 0)))] a' → Q .normal a' w) : ∀ ac, Frm 150 [(1, .bool hole), (2, .pointer (some ⟨wo.heap.size, 0, none⟩)), (4, .pointer (some ⟨wo.heap.size + 1, 0, none⟩)), (5, v), (6, .int .i64 (n : Nat)), (7, .pointer (some ⟨gx, 0, none⟩)), (8, .pointer (some ⟨gg, 0, none⟩)), (13, .int .i64 (cd : Nat))] ac → Code.wp Tryd.prog c_of_r34 Q ac w := by
  refine frm_open ?_
  refine frame_of ?_
  intros
  rename_i hq
  obtain ⟨-, -, e0q, e1q, e2q, e3q, e4q, e5q, e6q, e7q, -⟩ := hq
  obtain rfl := sI e0q
  obtain rfl := sI e1q
  obtain rfl := sI e2q
  obtain rfl := sI e3q
  obtain rfl := sI e4q
  obtain rfl := sI e5q
  obtain rfl := sI e6q
  obtain rfl := sI e7q
  conv => arg 2; whnf
  by_cases h : cd ≠ 0
  · have t1 : ((cd : Int) != 0) = true := by first | exact decide_eq_true (by omega) | exact beq_iff_eq.2 (by omega) | exact bne_iff_ne.2 (by omega)
    have t2 : (decide (cd ≠ 0)) = true := decide_eq_true h
    rw [t2] at hN
    clear h
    have HN := Lib.hid hN
    clear hN
    go_wp2_with fail
    exact HN.out _ (id ⟨rfl, rfl, rfl, rfl, rfl, rfl, rfl, rfl, rfl, rfl, rfl, trivial⟩)
  · have t1 : ((cd : Int) != 0) = false := by first | exact decide_eq_false (by omega) | exact beq_eq_false_iff_ne.2 (by omega) | exact bne_eq_false_iff_eq.2 (by omega)
    have t2 : (decide (cd ≠ 0)) = false := decide_eq_false h
    rw [t2] at hN
    clear h
    have HN := Lib.hid hN
    clear hN
    go_wp2_with fail
    exact HN.out _ (id ⟨rfl, rfl, rfl, rfl, rfl, rfl, rfl, rfl, rfl, rfl, rfl, trivial⟩)
noncomputable def c_of_r35 : Code := sub [1, 1, 0, 1, 0, 0, 1, 0, 0, 1, 1, 1, 1, 1, 1, 1, 1, 1, 1, 1, 0, 1, 0, 0] (Tryd.f38.body.getD .skip)
set_option maxRecDepth 1000000 in
set_option maxHeartbeats 16000000 in
theorem of_r35_wp {Q : Exit → Act → World → Prop} {cd : Nat} {hole : Bool} {n gx gg : Nat} {v : Value} {wo w : World} (hr : w.heap[wo.heap.size + 1]? = some (.cells #[.int .i64 0, .int .i64 0] 27 (0, 0))) (hb : Below wo.heap.size wo w) (hN : ∀ a' w', Frm 150 [(4, .pointer (some ⟨wo.heap.size + 1, 0, none⟩))] a' → w'.heap[wo.heap.size + 1]? = some (.cells #[.int .i64 (cd : Nat), .int .i64 (n : Nat)] 27 (0, 0)) → Below wo.heap.size wo w' → Q .normal a' w') : ∀ ac, Frm 150 [(1, .bool hole), (2, .pointer (some ⟨wo.heap.size, 0, none⟩)), (4, .pointer (some ⟨wo.heap.size + 1, 0, none⟩)), (5, v), (6, .int .i64 (n : Nat)), (7, .pointer (some ⟨gx, 0, none⟩)), (8, .pointer (some ⟨gg, 0, none⟩)), (13, .int .i64 (cd : Nat))] ac → Code.wp Tryd.prog c_of_r35 Q ac w := by
  refine frm_open ?_
  refine frame_of ?_
  intros
  rename_i hq
  obtain ⟨-, -, e0q, e1q, e2q, e3q, e4q, e5q, e6q, e7q, -⟩ := hq
  obtain rfl := sI e0q
  obtain rfl := sI e1q
  obtain rfl := sI e2q
  obtain rfl := sI e3q
  obtain rfl := sI e4q
  obtain rfl := sI e5q
  obtain rfl := sI e6q
  obtain rfl := sI e7q
  conv => arg 2; whnf
  have rc0 := cellv hr 0 rfl
  have rc1 := cellv hr 1 rfl
  have rf0 := free_heap hr 0
  have rf1 := free_heap hr 1
  have rl := lt_heap hr
  have HR := Lib.hid hr
  have HBB := Lib.hid hb
  clear hr hb
  have HN := Lib.hid hN
  clear hN
  go_wp2_with fail
  exact HN.out _ _ (id ⟨rfl, rfl, rfl, trivial⟩) (at2 HR.out) (below2 HBB.out (by omega))
noncomputable def c_of_r36 : Code := sub [1, 1, 0, 1, 0, 0, 1, 0, 0, 1, 1, 1, 1, 1, 1, 1, 1, 1, 1, 1, 1, 0] (Tryd.f38.body.getD .skip)
set_option maxRecDepth 1000000 in
set_option maxHeartbeats 16000000 in
theorem of_r36_wp {Q : Exit → Act → World → Prop} {S : Nat → Prop} {hole : Bool} {n gx gg d : Nat} {v : Value} {L : List FmAt} {wo w : World} {kd : Int} {nm : ByteArray} {A B : Option Addr} {n1 c1 n2 c2 : Nat} (h2 : n2 ≤ 1000) (hs : RD S wo w v L gx gg kd nm A n1 c1 B n2 c2 d) (hN : ∀ a', Frm 150 [(1, .bool hole), (2, .pointer (some ⟨wo.heap.size, 0, none⟩)), (4, .pointer (some ⟨wo.heap.size + 1, 0, none⟩)), (5, v), (6, .int .i64 (n : Nat)), (7, .pointer (some ⟨gx, 0, none⟩)), (8, .pointer (some ⟨gg, 0, none⟩)), (16, .int .i64 ((n2 : Int) - 1))] a' → Q .normal a' w) : ∀ ac, Frm 150 [(1, .bool hole), (2, .pointer (some ⟨wo.heap.size, 0, none⟩)), (4, .pointer (some ⟨wo.heap.size + 1, 0, none⟩)), (5, v), (6, .int .i64 (n : Nat)), (7, .pointer (some ⟨gx, 0, none⟩)), (8, .pointer (some ⟨gg, 0, none⟩))] ac → Code.wp Tryd.prog c_of_r36 Q ac w := by
  refine frm_open ?_
  refine frame_of ?_
  intros
  rename_i hq
  obtain ⟨-, -, e0q, e1q, e2q, e3q, e4q, e5q, e6q, -⟩ := hq
  obtain rfl := sI e0q
  obtain rfl := sI e1q
  obtain rfl := sI e2q
  obtain rfl := sI e3q
  obtain rfl := sI e4q
  obtain rfl := sI e5q
  obtain rfl := sI e6q
  conv => arg 2; whnf
  have q9 : (n2 : Int) ≤ 1000 := by omega
  have g0 := cellv hs.g 0 rfl
  have g1 := cellv hs.g 1 rfl
  have g2 := cellv hs.g 2 rfl
  have g3 := cellv hs.g 3 rfl
  have gl := lt_heap hs.g
  have HS := Lib.hid hs
  clear hs
  have HN := Lib.hid hN
  clear hN
  go_wp2_with fail
  exact HN.out _ (id ⟨rfl, rfl, rfl, rfl, rfl, rfl, rfl, rfl, rfl, rfl, trivial⟩)
noncomputable def c_of_r37 : Code := sub [1, 1, 0, 1, 0, 0, 1, 0, 0, 1, 1, 1, 1, 1, 1, 1, 1, 1, 1, 1, 1, 1, 0, 0, 0, 0] (Tryd.f38.body.getD .skip)
set_option maxRecDepth 1000000 in
set_option maxHeartbeats 16000000 in
theorem of_r37_wp {Q : Exit → Act → World → Prop} {j : Int} {hole : Bool} {n gx gg : Nat} {v : Value} {wo w : World} (hN : ∀ a', Frm 150 [(1, .bool hole), (2, .pointer (some ⟨wo.heap.size, 0, none⟩)), (4, .pointer (some ⟨wo.heap.size + 1, 0, none⟩)), (5, v), (6, .int .i64 (n : Nat)), (7, .pointer (some ⟨gx, 0, none⟩)), (8, .pointer (some ⟨gg, 0, none⟩)), (16, .int .i64 j), (134, .bool (decide (0 ≤ j)))] a' → Q .normal a' w) : ∀ ac, Frm 150 [(1, .bool hole), (2, .pointer (some ⟨wo.heap.size, 0, none⟩)), (4, .pointer (some ⟨wo.heap.size + 1, 0, none⟩)), (5, v), (6, .int .i64 (n : Nat)), (7, .pointer (some ⟨gx, 0, none⟩)), (8, .pointer (some ⟨gg, 0, none⟩)), (16, .int .i64 j)] ac → Code.wp Tryd.prog c_of_r37 Q ac w := by
  refine frm_open ?_
  refine frame_of ?_
  intros
  rename_i hq
  obtain ⟨-, -, e0q, e1q, e2q, e3q, e4q, e5q, e6q, e7q, -⟩ := hq
  obtain rfl := sI e0q
  obtain rfl := sI e1q
  obtain rfl := sI e2q
  obtain rfl := sI e3q
  obtain rfl := sI e4q
  obtain rfl := sI e5q
  obtain rfl := sI e6q
  obtain rfl := sI e7q
  conv => arg 2; whnf
  by_cases h : 0 ≤ j
  · have t1 : decide (0 ≤ j) = true := by first | exact decide_eq_true (by omega) | exact beq_iff_eq.2 (by omega) | exact bne_iff_ne.2 (by omega)
    have t2 : (decide (0 ≤ j)) = true := decide_eq_true h
    rw [t2] at hN
    clear h
    have HN := Lib.hid hN
    clear hN
    go_wp2_with fail
    exact HN.out _ (id ⟨rfl, rfl, rfl, rfl, rfl, rfl, rfl, rfl, rfl, rfl, rfl, trivial⟩)
  · have t1 : decide (0 ≤ j) = false := by first | exact decide_eq_false (by omega) | exact beq_eq_false_iff_ne.2 (by omega) | exact bne_eq_false_iff_eq.2 (by omega)
    have t2 : (decide (0 ≤ j)) = false := decide_eq_false h
    rw [t2] at hN
    clear h
    have HN := Lib.hid hN
    clear hN
    go_wp2_with fail
    exact HN.out _ (id ⟨rfl, rfl, rfl, rfl, rfl, rfl, rfl, rfl, rfl, rfl, rfl, trivial⟩)
noncomputable def c_of_r38 : Code := sub [1, 1, 0, 1, 0, 0, 1, 0, 0, 1, 1, 1, 1, 1, 1, 1, 1, 1, 1, 1, 1, 1, 0, 0, 1, 1] (Tryd.f38.body.getD .skip)
set_option maxRecDepth 1000000 in
set_option maxHeartbeats 16000000 in
theorem of_r38_wp {Q : Exit → Act → World → Prop} {i : Nat} {hole : Bool} {n gx gg : Nat} {v : Value} {wo w : World} (hi : i ≤ 1000) (hN : ∀ a', Frm 150 [(1, .bool hole), (2, .pointer (some ⟨wo.heap.size, 0, none⟩)), (4, .pointer (some ⟨wo.heap.size + 1, 0, none⟩)), (5, v), (6, .int .i64 (n : Nat)), (7, .pointer (some ⟨gx, 0, none⟩)), (8, .pointer (some ⟨gg, 0, none⟩)), (16, .int .i64 ((i : Int) - 1))] a' → Q .normal a' w) : ∀ ac, Frm 150 [(1, .bool hole), (2, .pointer (some ⟨wo.heap.size, 0, none⟩)), (4, .pointer (some ⟨wo.heap.size + 1, 0, none⟩)), (5, v), (6, .int .i64 (n : Nat)), (7, .pointer (some ⟨gx, 0, none⟩)), (8, .pointer (some ⟨gg, 0, none⟩)), (16, .int .i64 (i : Nat))] ac → Code.wp Tryd.prog c_of_r38 Q ac w := by
  refine frm_open ?_
  refine frame_of ?_
  intros
  rename_i hq
  obtain ⟨-, -, e0q, e1q, e2q, e3q, e4q, e5q, e6q, e7q, -⟩ := hq
  obtain rfl := sI e0q
  obtain rfl := sI e1q
  obtain rfl := sI e2q
  obtain rfl := sI e3q
  obtain rfl := sI e4q
  obtain rfl := sI e5q
  obtain rfl := sI e6q
  obtain rfl := sI e7q
  conv => arg 2; whnf
  have q9 : (i : Int) ≤ 1000 := by omega
  have HN := Lib.hid hN
  clear hN
  go_wp2_with fail
  exact HN.out _ (id ⟨rfl, rfl, rfl, rfl, rfl, rfl, rfl, rfl, rfl, rfl, trivial⟩)
noncomputable def c_of_r4 : Code := sub [1, 1, 0, 1, 0, 0, 1, 1] (Tryd.f38.body.getD .skip)
set_option maxRecDepth 1000000 in
set_option maxHeartbeats 16000000 in
theorem of_r4_wp {Q : Exit → Act → World → Prop} {hole : Bool} {n : Nat} {v : Value} {wo w : World} (hn : n ≤ 1000) (hN : ∀ a', Frm 150 [(1, .bool hole), (2, .pointer (some ⟨wo.heap.size, 0, none⟩)), (4, .pointer (some ⟨wo.heap.size + 1, 0, none⟩)), (5, v), (6, .int .i64 (n + 1 : Nat))] a' → Q .normal a' w) : ∀ ac, Frm 150 [(1, .bool hole), (2, .pointer (some ⟨wo.heap.size, 0, none⟩)), (4, .pointer (some ⟨wo.heap.size + 1, 0, none⟩)), (5, v), (6, .int .i64 (n : Nat))] ac → Code.wp Tryd.prog c_of_r4 Q ac w := by
  refine frm_open ?_
  refine frame_of ?_
  intros
  rename_i hq
  obtain ⟨-, -, e0q, e1q, e2q, e3q, e4q, -⟩ := hq
  obtain rfl := sI e0q
  obtain rfl := sI e1q
  obtain rfl := sI e2q
  obtain rfl := sI e3q
  obtain rfl := sI e4q
  conv => arg 2; whnf
  have q9 : (n : Int) ≤ 1000 := by omega
  have HN := Lib.hid hN
  clear hN
  go_wp2_with fail
  exact HN.out _ (id ⟨rfl, rfl, rfl, rfl, rfl, rfl, rfl, trivial⟩)
noncomputable def c_of_r40 : Code := sub [1, 1, 1, 0] (Tryd.f38.body.getD .skip)
set_option maxRecDepth 1000000 in
set_option maxHeartbeats 16000000 in
theorem of_r40_wp {Q : Exit → Act → World → Prop} {wo w : World} (hr : w.heap[wo.heap.size + 1]? = some (.cells #[.int .i64 0, .int .i64 0] 27 (0, 0))) (hb : Below wo.heap.size wo w) (hN : ∀ a' w', Frm 150 [(4, .pointer (some ⟨wo.heap.size + 1, 0, none⟩))] a' → w'.heap[wo.heap.size + 1]? = some (.cells #[.int .i64 0, .int .i64 0] 27 (0, 0)) → Below wo.heap.size wo w' → Q .normal a' w') : ∀ ac, Frm 150 [(4, .pointer (some ⟨wo.heap.size + 1, 0, none⟩))] ac → Code.wp Tryd.prog c_of_r40 Q ac w := by
  refine frm_open ?_
  refine frame_of ?_
  intros
  rename_i hq
  obtain ⟨-, -, e0q, -⟩ := hq
  obtain rfl := sI e0q
  conv => arg 2; whnf
  have rc0 := cellv hr 0 rfl
  have rc1 := cellv hr 1 rfl
  have rf0 := free_heap hr 0
  have rf1 := free_heap hr 1
  have rl := lt_heap hr
  have HR := Lib.hid hr
  have HBB := Lib.hid hb
  clear hr hb
  have HN := Lib.hid hN
  clear hN
  go_wp2_with fail
  exact HN.out _ _ (id ⟨rfl, rfl, rfl, trivial⟩) (at2 HR.out) (below2 HBB.out (by omega))
set_option maxRecDepth 1000000 in
theorem of_ret_wp {R : Ending → World → Prop} {w' : World} {g : Nat} {f0 f1 : Int} (hg : w'.heap[g]? = some (.cells #[.int .i64 f0, .int .i64 f1] 27 (0, 0))) (hR : R (.returned (.agg #[.int .i64 f0, .int .i64 f1])) w') : ∀ ac, Frm 150 [(4, .pointer (some ⟨g, 0, none⟩))] ac → bodyPost Tryd.prog Tryd.f38 R .ret ac w' := by
  refine frm_open ?_
  refine frame_of ?_
  intros
  rename_i hq
  obtain ⟨-, -, e0q, -⟩ := hq
  obtain rfl := sI e0q
  have z0 := cellv hg 0 rfl
  have z1 := cellv hg 1 rfl
  have zl := lt_heap hg
  refine bodyPost_ret (v := .agg #[.int .i64 f0, .int .i64 f1]) (by simp [results, Tryd.results38, go_sem, z0, z1, zl]) rfl ?_
  exact hR
noncomputable def c_of_r39 : Code := sub [1, 1, 0, 1, 0, 0, 1, 0, 0, 1, 1, 1, 1, 1, 1, 1, 1, 1, 1, 1, 1, 1, 0, 0, 1, 0, 0] (Tryd.f38.body.getD .skip)
set_option maxRecDepth 1000000 in
set_option maxHeartbeats 16000000 in
theorem of_r39_wp {K : Act → World → Prop} {Aq : Option Addr} {cq i b o : Nat} {te : Fm} {ke : Int} {ne : ByteArray} {Ae Be : Option Addr} {n3 c3 n4 c4 : Nat} {S : Nat → Prop} {hole : Bool} {n gx gg d : Nat} {L : List FmAt} {wo w : World} {kd : Int} {nm : ByteArray} {A : Option Addr} {n1 c1 n2 c2 : Nat} (hi : i < n2) (h2 : n2 ≤ 1000) (hd : d ≤ 100) (hLl : L.length ≤ 1000) (hb0 : b < wo.heap.size) (hSo : ∀ k, S k → k < wo.heap.size) (hte : fmRep.R w S te [.int .i64 ke, .string ne, .slice Ae n3 c3, .slice Be n4 c4]) (e0 : w.cell? ⟨b, o + i * 4, none⟩ = some (.int .i64 ke)) (e1 : w.cell? ⟨b, o + i * 4 + 1, none⟩ = some (.string ne)) (e2 : w.cell? ⟨b, o + i * 4 + 2, none⟩ = some (.slice Ae n3 c3)) (e3 : w.cell? ⟨b, o + i * 4 + 3, none⟩ = some (.slice Be n4 c4)) (hs : RD S wo w (.slice Aq L.length cq) L gx gg kd nm A n1 c1 (some ⟨b, o, none⟩) n2 c2 d) (hN : ∀ v' a' w', Frm 150 [(1, .bool hole), (2, .pointer (some ⟨wo.heap.size, 0, none⟩)), (4, .pointer (some ⟨wo.heap.size + 1, 0, none⟩)), (5, v'), (6, .int .i64 (n : Nat)), (7, .pointer (some ⟨gx, 0, none⟩)), (8, .pointer (some ⟨gg, 0, none⟩)), (16, .int .i64 (i : Nat))] a' → RD S wo w' v' (L ++ [⟨te, d + 1⟩]) gx gg kd nm A n1 c1 (some ⟨b, o, none⟩) n2 c2 d → K a' w') : ∀ ac, Frm 150 [(1, .bool hole), (2, .pointer (some ⟨wo.heap.size, 0, none⟩)), (4, .pointer (some ⟨wo.heap.size + 1, 0, none⟩)), (5, .slice Aq L.length cq), (6, .int .i64 (n : Nat)), (7, .pointer (some ⟨gx, 0, none⟩)), (8, .pointer (some ⟨gg, 0, none⟩)), (16, .int .i64 (i : Nat))] ac → Code.wp Tryd.prog c_of_r39 (Exit.then K (fun _ _ _ => False)) ac w := by
  refine frm_open ?_
  refine frame_of ?_
  intros
  rename_i hq
  obtain ⟨-, -, e0q, e1q, e2q, e3q, e4q, e5q, e6q, e7q, -⟩ := hq
  obtain rfl := sI e0q
  obtain rfl := sI e1q
  obtain rfl := sI e2q
  obtain rfl := sI e3q
  obtain rfl := sI e4q
  obtain rfl := sI e5q
  obtain rfl := sI e6q
  obtain rfl := sI e7q
  conv => arg 2; whnf
  obtain ⟨ti, hti, hti0, hti1, hti2⟩ := info_parts infoFormAt
  have q0 : (0 : Int) ≤ (i : Int) := by omega
  have q1 : (i : Int) < (n2 : Int) := by omega
  have q9 : (d : Int) ≤ 1000 := by omega
  have hwd : IntKind.i64.wrap ((d : Int) + 1) = (d : Int) + 1 := wrap_small _ (by omega) (by omega)
  obtain ⟨xs, hrow, hall⟩ := id hs.own
  have g0 := cellv hs.g 0 rfl
  have g1 := cellv hs.g 1 rfl
  have g2 := cellv hs.g 2 rfl
  have g3 := cellv hs.g 3 rfl
  have gl := lt_heap hs.g
  have x4 := cellv hs.x 4 rfl
  have xl := lt_heap hs.x
  have hbk := hs.own.block
  have hkb : (Value.slice Aq L.length cq).ownBlock ≠ some b := fun e => by have := hbk _ e; omega
  have hwo := hs.b.size
  have hlg := hs.lg
  have lb : b < w.heap.size := by omega
  have hfin : ∀ (gq cap : Nat) (w3 : World), w3.ownsRow (wo.heap.size + 2) 88 5 (.slice (some ⟨gq, 0, none⟩) (L.length + 1) cap) (L.length + 1) (xs ++ [.int .i64 ke, .string ne, .slice Ae n3 c3, .slice Be n4 c4, .int .i64 ((d : Int) + 1)]) → ((w.alloc (.cells #[.int .i64 ke, .string ne, .slice Ae n3 c3, .slice Be n4 c4, .int .i64 ((d : Int) + 1)] 88)).drew).grownBy w3 (Value.slice Aq L.length cq).ownBlock → ((Value.slice Aq L.length cq).ownBlock = some gq ∨ gq = w.heap.size + 1) → RD S wo w3 (.slice (some ⟨gq, 0, none⟩) (L.length + 1) cap) (L ++ [⟨te, d + 1⟩]) gx gg kd nm A n1 c1 (some ⟨b, o, none⟩) n2 c2 d := by
    intro gq cap w3 hown hgrow hat
    have hkk : ∀ k, k < w.heap.size → ((w.alloc (.cells #[.int .i64 ke, .string ne, .slice Ae n3 c3, .slice Be n4 c4, .int .i64 ((d : Int) + 1)] 88)).drew).heap[k]? = w.heap[k]? := fun k hk => heap_drew (heap_old hk rfl)
    have hap := Rep.appended1 (ρ := fmAtRep) (H := w.heap.size + 1) (S := S) (T := S) (a := ⟨te, d + 1⟩) (hall.keep (fun k hk => hkk k (by have := hSo k hk.1; omega)) (fun _ h => h)) (news := [.int .i64 ke, .string ne, .slice Ae n3 c3, .slice Be n4 c4, .int .i64 ((d : Int) + 1)])
      ⟨_, by simp, fmRep.keep hte (fun k hk => hkk k (by have := hSo k hk; omega)) (fun _ h => h)⟩ (fun k hk => ⟨hk, fun e => by have := hbk _ e; have := hSo k hk; omega⟩) (fun k hk => by have := hSo k hk; simp; omega) hown hgrow hat (by simp)
    refine hs.step hap ⟨hgrow.os, hgrow.tape, hgrow.output, by have := hgrow.size; simp at this; omega, fun k hk hne => (hgrow.block k (by simp; omega) hne).trans (hkk k hk)⟩ (fun k e => ?_)
    simp only [Value.ownBlock, Option.some.injEq] at e
    rcases hat with h | h
    · exact Or.inl (by rw [h, e])
    · exact Or.inr (by omega)
  have HFIN := Lib.hid hfin
  have HROW := Lib.hid hrow
  have HNX := Lib.hid hs.nx
  have HNG := Lib.hid hs.ng
  have HNB := Lib.hid hkb
  clear hfin hrow hall hbk hte hkb hSo
  have HS := Lib.hid hs
  clear hs
  go_region_law ((refine step_append_lies _ (by rfl) (.tmp 137) (.tmp 147) _ (by rfl) (wo.heap.size + 2) 88 ti _ 5 80 Tryd.underlying89 hti hti0 hti1 hti2 rfl (by omega) (.slice Aq L.length cq) L.length xs (by rfl) (HROW.out.alloc _).drew ⟨w.heap.size, 0, none⟩ 1 1 [.int .i64 ke, .string ne, .slice Ae n3 c3, .slice Be n4 c4, .int .i64 ((d : Int) + 1)] (by rfl) (by rfl) (World.news_of_block (cs := #[.int .i64 ke, .string ne, .slice Ae n3 c3, .slice Be n4 c4, .int .i64 ((d : Int) + 1)]) (t := 88) (fr := (0, 0)) (heap_alloc_new w _)) (by simp [Value.oneCell']) (by omega) (by unfold maxLen; omega) (by omega) (by simp; omega) (w.heap.size + 1) (by simp) ?_; intro gq cap w3 hown3 hgrow hat hlt; have hx := HFIN.out gq cap w3 hown3 hgrow hat; have HX := Lib.hid hx; clear hown3 hgrow hat hlt hx))
  all_goals go_wp2_with fail
  all_goals exact hN _ _ _ (id ⟨rfl, rfl, rfl, rfl, rfl, rfl, rfl, rfl, rfl, rfl, trivial⟩) HX.out

end Go.Proofs.YtdofemkfmkopcaaDoor
