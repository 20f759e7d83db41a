/-
  folform.Check's inner function: its first regions, by parts.
-/
import Derived.Test.YtflcbbikfdahhaaDoorProg
import Derived.Test.YtflcbbikfdahhaaDoorName
import Derived.Test.YtflcbbikfdahhaaDoorFmVal
import Derived.Test.YtflcbbikfdahhaaDoorKeeps
import Derived.Test.YtflcbbikfdahhaaDoorParts
import Derived.Deep.DeepCutAuto
import Derived.BigQuiet
namespace Go.Proofs.YtflcbbikfdahhaaDoor
open Go Go.RowKit
set_option linter.unusedSimpArgs false
set_option linter.unusedVariables false

/-- How many parts: as the program says it. -/
def subsI (hole : Bool) (k : Int) : Int := match subsF hole k with | none => -1 | some n => n
set_option maxRecDepth 100000 in
theorem subs_any (k : Int) (w : World) : Calls Tryd.prog 102 #[.int .i64 k] w fun e w' => e = .returned (.int .i64 (subsI false k)) ∧ w = w' := by
  have key : ∀ r : Int, subsI false k = r → Hid (∀ w : World, Calls Tryd.prog 102 #[.int .i64 k] w fun e w' => e = .returned (.int .i64 r) ∧ w = w') → Calls Tryd.prog 102 #[.int .i64 k] w fun e w' => e = .returned (.int .i64 (subsI false k)) ∧ w = w' := fun r e h => by rw [e]; exact h.out w
  by_cases k1 : k = 1
  · subst k1
    refine key 0 rfl (Lib.hid (fun w => ?_))
    go_enter Tryd.func102, Tryd.ntmps102
    go_wp2_with fail
    go_returns
    exact ⟨rfl, rfl⟩
  have g1 : (k == 1) = false := beq_eq_false_iff_ne.2 k1
  by_cases k2 : k = 2
  · subst k2
    refine key 0 rfl (Lib.hid (fun w => ?_))
    go_enter Tryd.func102, Tryd.ntmps102
    go_wp2_with fail
    go_returns
    exact ⟨rfl, rfl⟩
  have g2 : (k == 2) = false := beq_eq_false_iff_ne.2 k2
  by_cases k3 : k = 3
  · subst k3
    refine key 0 rfl (Lib.hid (fun w => ?_))
    go_enter Tryd.func102, Tryd.ntmps102
    go_wp2_with fail
    go_returns
    exact ⟨rfl, rfl⟩
  have g3 : (k == 3) = false := beq_eq_false_iff_ne.2 k3
  by_cases k4 : k = 4
  · subst k4
    refine key 1 rfl (Lib.hid (fun w => ?_))
    go_enter Tryd.func102, Tryd.ntmps102
    go_wp2_with fail
    go_returns
    exact ⟨rfl, rfl⟩
  have g4 : (k == 4) = false := beq_eq_false_iff_ne.2 k4
  by_cases k8 : k = 8
  · subst k8
    refine key 1 rfl (Lib.hid (fun w => ?_))
    go_enter Tryd.func102, Tryd.ntmps102
    go_wp2_with fail
    go_returns
    exact ⟨rfl, rfl⟩
  have g8 : (k == 8) = false := beq_eq_false_iff_ne.2 k8
  by_cases k9 : k = 9
  · subst k9
    refine key 1 rfl (Lib.hid (fun w => ?_))
    go_enter Tryd.func102, Tryd.ntmps102
    go_wp2_with fail
    go_returns
    exact ⟨rfl, rfl⟩
  have g9 : (k == 9) = false := beq_eq_false_iff_ne.2 k9
  by_cases k5 : k = 5
  · subst k5
    refine key 2 rfl (Lib.hid (fun w => ?_))
    go_enter Tryd.func102, Tryd.ntmps102
    go_wp2_with fail
    go_returns
    exact ⟨rfl, rfl⟩
  have g5 : (k == 5) = false := beq_eq_false_iff_ne.2 k5
  by_cases k6 : k = 6
  · subst k6
    refine key 2 rfl (Lib.hid (fun w => ?_))
    go_enter Tryd.func102, Tryd.ntmps102
    go_wp2_with fail
    go_returns
    exact ⟨rfl, rfl⟩
  have g6 : (k == 6) = false := beq_eq_false_iff_ne.2 k6
  by_cases k7 : k = 7
  · subst k7
    refine key 2 rfl (Lib.hid (fun w => ?_))
    go_enter Tryd.func102, Tryd.ntmps102
    go_wp2_with fail
    go_returns
    exact ⟨rfl, rfl⟩
  have g7 : (k == 7) = false := beq_eq_false_iff_ne.2 k7
  refine key (-1) (by unfold subsI subsF; rw [if_neg (by omega), if_neg (by omega), if_neg (by omega), if_neg (by rintro ⟨_, h⟩; cases h)]) (Lib.hid (fun w => ?_))
  clear key k1 k2 k3 k4 k5 k6 k7 k8 k9
  go_enter Tryd.func102, Tryd.ntmps102
  go_wp2_with fail
  go_returns
  exact ⟨rfl, rfl⟩
def isQu (k : Int) : Bool := decide (k = 8) || decide (k = 9)
theorem quant_any (kd : Int) (nm : ByteArray) (A B : Option Addr) (n1 c1 n2 c2 : Nat) (w : World) : Calls Tryd.prog 61 #[.agg #[.int .i64 kd, .string nm, .slice A n1 c1, .slice B n2 c2]] w fun e w' => e = .returned (.bool (isQu kd)) ∧ Below w.heap.size w w' := by
  by_cases k8 : kd = 8
  · subst k8
    go_enter Tryd.func61, Tryd.ntmps61
    go_wp2_with fail
    go_returns
    exact ⟨rfl, by go_grown⟩
  have g8 : (kd == 8) = false := beq_eq_false_iff_ne.2 k8
  by_cases k9 : kd = 9
  · subst k9
    go_enter Tryd.func61, Tryd.ntmps61
    go_wp2_with fail
    go_returns
    exact ⟨rfl, by go_grown⟩
  have g9 : (kd == 9) = false := beq_eq_false_iff_ne.2 k9
  have hq : isQu kd = false := by simp [isQu, k8, k9]
  rw [hq]
  clear hq k8 k9
  go_enter Tryd.func61, Tryd.ntmps61
  go_wp2_with fail
  go_returns
  exact ⟨rfl, by go_grown⟩
theorem badF_any (b n : Nat) (code : Int) (w : World) (h : w.heap[b]? = some (.cells #[.int .i64 n] 3 (0, 0))) :
    Calls Tryd.prog 101 #[.int .i64 code, .pointer (some ⟨b, 0, none⟩)] w fun e w' => e = .returned (.agg #[.int .i64 code, .int .i64 n]) ∧ Below w.heap.size w w' := by
  have h_0 := cv0 h
  have h_l := lt_heap h
  have H := Lib.hid h
  clear h
  go_enter Tryd.func101, Tryd.ntmps101
  go_wp2_with fail
  refine bodyPost_ret (v := .agg #[.int .i64 code, .int .i64 n]) (by simp [results, Tryd.results101, go_sem]) rfl ?_
  exact ⟨rfl, by go_grown⟩
set_option maxRecDepth 1000000 in
theorem frame_ck {P : Act → Prop} (h : ∀ x0 x1 x2 x3 x4 x5 x6 x7 x8 x9 x10 x11 x12 x13 x14 x15 x16 x17 x18 x19 x20 x21 x22 x23 x24 x25 x26 x27 x28 x29 x30 x31 x32 x33 x34 x35 x36 x37 x38 x39 x40 x41 x42 x43 x44 x45 x46 x47 x48 x49 x50 x51 x52 x53 x54 x55 x56 x57 x58 x59 x60 x61 x62 x63 x64 x65 x66 x67 x68 x69 x70 x71 x72 x73 x74 x75 x76 x77 x78 x79 x80 x81 x82 x83 x84 x85 x86 x87 x88 x89 x90 x91 x92 x93 x94 x95 x96 x97 x98 x99 x100 x101 x102 x103 x104 x105 x106 x107 x108 x109 x110 x111 x112 x113 x114 x115 x116 x117 x118 x119 x120 x121 x122 x123 x124 x125 x126 x127 x128 x129 x130 x131 x132 : Value, P ⟨(x0 :: x1 :: x2 :: x3 :: x4 :: x5 :: x6 :: x7 :: x8 :: x9 :: x10 :: x11 :: x12 :: x13 :: x14 :: x15 :: x16 :: x17 :: x18 :: x19 :: x20 :: x21 :: x22 :: x23 :: x24 :: x25 :: x26 :: x27 :: x28 :: x29 :: x30 :: x31 :: x32 :: x33 :: x34 :: x35 :: x36 :: x37 :: x38 :: x39 :: x40 :: x41 :: x42 :: x43 :: x44 :: x45 :: x46 :: x47 :: x48 :: x49 :: x50 :: x51 :: x52 :: x53 :: x54 :: x55 :: x56 :: x57 :: x58 :: x59 :: x60 :: x61 :: x62 :: x63 :: x64 :: x65 :: x66 :: x67 :: x68 :: x69 :: x70 :: x71 :: x72 :: x73 :: x74 :: x75 :: x76 :: x77 :: x78 :: x79 :: x80 :: x81 :: x82 :: x83 :: x84 :: x85 :: x86 :: x87 :: x88 :: x89 :: x90 :: x91 :: x92 :: x93 :: x94 :: x95 :: x96 :: x97 :: x98 :: x99 :: x100 :: x101 :: x102 :: x103 :: x104 :: x105 :: x106 :: x107 :: x108 :: x109 :: x110 :: x111 :: x112 :: x113 :: x114 :: x115 :: x116 :: x117 :: x118 :: x119 :: x120 :: x121 :: x122 :: x123 :: x124 :: x125 :: x126 :: x127 :: x128 :: x129 :: x130 :: x131 :: x132 :: []).toArray, []⟩) : ∀ a : Act, a.tmps.toList.length = 133 → a.defers = [] → P a := by
  rintro ⟨⟨l⟩, d⟩ hs hd
  simp only at hd
  subst hd
  revert l
  show ∀ l : List Value, l.length = 133 → P ⟨⟨l⟩, []⟩
  refine openS (n := 132) (fun x0 => ?_)
  refine openS (n := 131) (fun x1 => ?_)
  refine openS (n := 130) (fun x2 => ?_)
  refine openS (n := 129) (fun x3 => ?_)
  refine openS (n := 128) (fun x4 => ?_)
  refine openS (n := 127) (fun x5 => ?_)
  refine openS (n := 126) (fun x6 => ?_)
  refine openS (n := 125) (fun x7 => ?_)
  refine openS (n := 124) (fun x8 => ?_)
  refine openS (n := 123) (fun x9 => ?_)
  refine openS (n := 122) (fun x10 => ?_)
  refine openS (n := 121) (fun x11 => ?_)
  refine openS (n := 120) (fun x12 => ?_)
  refine openS (n := 119) (fun x13 => ?_)
  refine openS (n := 118) (fun x14 => ?_)
  refine openS (n := 117) (fun x15 => ?_)
  refine openS (n := 116) (fun x16 => ?_)
  refine openS (n := 115) (fun x17 => ?_)
  refine openS (n := 114) (fun x18 => ?_)
  refine openS (n := 113) (fun x19 => ?_)
  refine openS (n := 112) (fun x20 => ?_)
  refine openS (n := 111) (fun x21 => ?_)
  refine openS (n := 110) (fun x22 => ?_)
  refine openS (n := 109) (fun x23 => ?_)
  refine openS (n := 108) (fun x24 => ?_)
  refine openS (n := 107) (fun x25 => ?_)
  refine openS (n := 106) (fun x26 => ?_)
  refine openS (n := 105) (fun x27 => ?_)
  refine openS (n := 104) (fun x28 => ?_)
  refine openS (n := 103) (fun x29 => ?_)
  refine openS (n := 102) (fun x30 => ?_)
  refine openS (n := 101) (fun x31 => ?_)
  refine openS (n := 100) (fun x32 => ?_)
  refine openS (n := 99) (fun x33 => ?_)
  refine openS (n := 98) (fun x34 => ?_)
  refine openS (n := 97) (fun x35 => ?_)
  refine openS (n := 96) (fun x36 => ?_)
  refine openS (n := 95) (fun x37 => ?_)
  refine openS (n := 94) (fun x38 => ?_)
  refine openS (n := 93) (fun x39 => ?_)
  refine openS (n := 92) (fun x40 => ?_)
  refine openS (n := 91) (fun x41 => ?_)
  refine openS (n := 90) (fun x42 => ?_)
  refine openS (n := 89) (fun x43 => ?_)
  refine openS (n := 88) (fun x44 => ?_)
  refine openS (n := 87) (fun x45 => ?_)
  refine openS (n := 86) (fun x46 => ?_)
  refine openS (n := 85) (fun x47 => ?_)
  refine openS (n := 84) (fun x48 => ?_)
  refine openS (n := 83) (fun x49 => ?_)
  refine openS (n := 82) (fun x50 => ?_)
  refine openS (n := 81) (fun x51 => ?_)
  refine openS (n := 80) (fun x52 => ?_)
  refine openS (n := 79) (fun x53 => ?_)
  refine openS (n := 78) (fun x54 => ?_)
  refine openS (n := 77) (fun x55 => ?_)
  refine openS (n := 76) (fun x56 => ?_)
  refine openS (n := 75) (fun x57 => ?_)
  refine openS (n := 74) (fun x58 => ?_)
  refine openS (n := 73) (fun x59 => ?_)
  refine openS (n := 72) (fun x60 => ?_)
  refine openS (n := 71) (fun x61 => ?_)
  refine openS (n := 70) (fun x62 => ?_)
  refine openS (n := 69) (fun x63 => ?_)
  refine openS (n := 68) (fun x64 => ?_)
  refine openS (n := 67) (fun x65 => ?_)
  refine openS (n := 66) (fun x66 => ?_)
  refine openS (n := 65) (fun x67 => ?_)
  refine openS (n := 64) (fun x68 => ?_)
  refine openS (n := 63) (fun x69 => ?_)
  refine openS (n := 62) (fun x70 => ?_)
  refine openS (n := 61) (fun x71 => ?_)
  refine openS (n := 60) (fun x72 => ?_)
  refine openS (n := 59) (fun x73 => ?_)
  refine openS (n := 58) (fun x74 => ?_)
  refine openS (n := 57) (fun x75 => ?_)
  refine openS (n := 56) (fun x76 => ?_)
  refine openS (n := 55) (fun x77 => ?_)
  refine openS (n := 54) (fun x78 => ?_)
  refine openS (n := 53) (fun x79 => ?_)
  refine openS (n := 52) (fun x80 => ?_)
  refine openS (n := 51) (fun x81 => ?_)
  refine openS (n := 50) (fun x82 => ?_)
  refine openS (n := 49) (fun x83 => ?_)
  refine openS (n := 48) (fun x84 => ?_)
  refine openS (n := 47) (fun x85 => ?_)
  refine openS (n := 46) (fun x86 => ?_)
  refine openS (n := 45) (fun x87 => ?_)
  refine openS (n := 44) (fun x88 => ?_)
  refine openS (n := 43) (fun x89 => ?_)
  refine openS (n := 42) (fun x90 => ?_)
  refine openS (n := 41) (fun x91 => ?_)
  refine openS (n := 40) (fun x92 => ?_)
  refine openS (n := 39) (fun x93 => ?_)
  refine openS (n := 38) (fun x94 => ?_)
  refine openS (n := 37) (fun x95 => ?_)
  refine openS (n := 36) (fun x96 => ?_)
  refine openS (n := 35) (fun x97 => ?_)
  refine openS (n := 34) (fun x98 => ?_)
  refine openS (n := 33) (fun x99 => ?_)
  refine openS (n := 32) (fun x100 => ?_)
  refine openS (n := 31) (fun x101 => ?_)
  refine openS (n := 30) (fun x102 => ?_)
  refine openS (n := 29) (fun x103 => ?_)
  refine openS (n := 28) (fun x104 => ?_)
  refine openS (n := 27) (fun x105 => ?_)
  refine openS (n := 26) (fun x106 => ?_)
  refine openS (n := 25) (fun x107 => ?_)
  refine openS (n := 24) (fun x108 => ?_)
  refine openS (n := 23) (fun x109 => ?_)
  refine openS (n := 22) (fun x110 => ?_)
  refine openS (n := 21) (fun x111 => ?_)
  refine openS (n := 20) (fun x112 => ?_)
  refine openS (n := 19) (fun x113 => ?_)
  refine openS (n := 18) (fun x114 => ?_)
  refine openS (n := 17) (fun x115 => ?_)
  refine openS (n := 16) (fun x116 => ?_)
  refine openS (n := 15) (fun x117 => ?_)
  refine openS (n := 14) (fun x118 => ?_)
  refine openS (n := 13) (fun x119 => ?_)
  refine openS (n := 12) (fun x120 => ?_)
  refine openS (n := 11) (fun x121 => ?_)
  refine openS (n := 10) (fun x122 => ?_)
  refine openS (n := 9) (fun x123 => ?_)
  refine openS (n := 8) (fun x124 => ?_)
  refine openS (n := 7) (fun x125 => ?_)
  refine openS (n := 6) (fun x126 => ?_)
  refine openS (n := 5) (fun x127 => ?_)
  refine openS (n := 4) (fun x128 => ?_)
  refine openS (n := 3) (fun x129 => ?_)
  refine openS (n := 2) (fun x130 => ?_)
  refine openS (n := 1) (fun x131 => ?_)
  refine openS (n := 0) (fun x132 => ?_)
  refine open0 ?_
  exact h x0 x1 x2 x3 x4 x5 x6 x7 x8 x9 x10 x11 x12 x13 x14 x15 x16 x17 x18 x19 x20 x21 x22 x23 x24 x25 x26 x27 x28 x29 x30 x31 x32 x33 x34 x35 x36 x37 x38 x39 x40 x41 x42 x43 x44 x45 x46 x47 x48 x49 x50 x51 x52 x53 x54 x55 x56 x57 x58 x59 x60 x61 x62 x63 x64 x65 x66 x67 x68 x69 x70 x71 x72 x73 x74 x75 x76 x77 x78 x79 x80 x81 x82 x83 x84 x85 x86 x87 x88 x89 x90 x91 x92 x93 x94 x95 x96 x97 x98 x99 x100 x101 x102 x103 x104 x105 x106 x107 x108 x109 x110 x111 x112 x113 x114 x115 x116 x117 x118 x119 x120 x121 x122 x123 x124 x125 x126 x127 x128 x129 x130 x131 x132
/-- In Check's inner function: its three blocks, the count, what it keeps. -/
structure CS (wo w : World) (bn : Nat) (kd : Int) (nm : ByteArray) (A : Option Addr) (n1 c1 : Nat) (B : Option Addr) (n2 c2 : Nat) (n m : Nat) : Prop where
  a : w.heap[wo.heap.size]? = some (.cells #[.int .i64 kd, .string nm, .slice A n1 c1, .slice B n2 c2] 29 (0, 0))
  r : w.heap[wo.heap.size + 1]? = some (.cells #[.int .i64 0, .int .i64 0] 31 (0, 0))
  p : w.heap[wo.heap.size + 1 + 1]? = some (.cells #[.int .i64 n] 3 (0, 0))
  c : w.heap[bn]? = some (.cells #[.int .i64 m] 3 (0, 0))
  k : Keeps (· = bn) wo w
  l : bn < wo.heap.size
/-- The result stands. -/
structure CD (wo w : World) (bn m : Nat) (f0 f1 : Value) : Prop where
  r : w.heap[wo.heap.size + 1]? = some (.cells #[f0, f1] 31 (0, 0))
  c : w.heap[bn]? = some (.cells #[.int .i64 m] 3 (0, 0))
  k : Keeps (· = bn) wo w
theorem CS.keeps {wo w w' : World} {bn n m m' : Nat} {kd : Int} {nm : ByteArray} {A B : Option Addr} {n1 c1 n2 c2 : Nat} (h : CS wo w bn kd nm A n1 c1 B n2 c2 n m) (hk : Keeps (· = bn) w w') (hc : w'.heap[bn]? = some (.cells #[.int .i64 m'] 3 (0, 0))) : CS wo w' bn kd nm A n1 c1 B n2 c2 n m' :=
  have l1 := h.l
  have l2 := lt_heap h.a
  have l3 := lt_heap h.r
  have l4 := lt_heap h.p
  ⟨(hk.block _ l2 (by omega)).trans h.a, (hk.block _ l3 (by omega)).trans h.r, (hk.block _ l4 (by omega)).trans h.p, hc, h.k.trans hk, l1⟩
theorem CS.below {wo w w' : World} {bn n m : Nat} {kd : Int} {nm : ByteArray} {A B : Option Addr} {n1 c1 n2 c2 : Nat} (h : CS wo w bn kd nm A n1 c1 B n2 c2 n m) (hb : Below w.heap.size w w') : CS wo w' bn kd nm A n1 c1 B n2 c2 n m := h.keeps (Below.keeps hb _) ((hb.block _ (lt_heap h.c)).trans h.c)
theorem CS.put {wo w : World} {bn n m : Nat} {kd : Int} {nm : ByteArray} {A B : Option Addr} {n1 c1 n2 c2 : Nat} (h : CS wo w bn kd nm A n1 c1 B n2 c2 n m) (f0 f1 : Value) : CD wo ((w.setCell ⟨wo.heap.size + 1, 0, none⟩ f0).setCell ⟨wo.heap.size + 1, 1, none⟩ f1) bn m f0 f1 :=
  have l1 := h.l
  ⟨at2 h.r, far2 (by omega) h.c, (h.k.set (b := wo.heap.size + 1) (Or.inr (by omega)) 0 _).set (b := wo.heap.size + 1) (Or.inr (by omega)) 1 _⟩
theorem CS.old {wo w : World} {bn n m : Nat} {kd : Int} {nm : ByteArray} {A B : Option Addr} {n1 c1 n2 c2 : Nat} (h : CS wo w bn kd nm A n1 c1 B n2 c2 n m) {S : Nat → Prop} (hS : ∀ b, S b → b < wo.heap.size ∧ b ≠ bn) : ∀ b, S b → w.heap[b]? = wo.heap[b]? := fun b hb => h.k.block b (hS b hb).1 (hS b hb).2
theorem CS.start {wo : World} {bn n : Nat} {kd : Int} {nm : ByteArray} {A B : Option Addr} {n1 c1 n2 c2 : Nat} (hb : wo.heap[bn]? = some (.cells #[.int .i64 n] 3 (0, 0))) :
    CS wo ((((wo.alloc (.cells #[.int .i64 kd, .string nm, .slice A n1 c1, .slice B n2 c2] 29)).alloc (.cells #[.int .i64 0, .int .i64 0] 31)).alloc (.cells #[.int .i64 n] 3)).setCell ⟨bn, 0, none⟩ (.int .i64 (n + 1 : Nat))) bn kd nm A n1 c1 B n2 c2 n (n + 1) := by
  have hl := lt_heap hb
  refine ⟨heap_far _ (by omega) (heap_old (by simp; omega) (heap_old (by simp) (heap_at rfl))), heap_far _ (by omega) (heap_old (by simp) (heap_at (by simp))), heap_far _ (by omega) (heap_at (by simp)), ?_, ?_, hl⟩
  · have := heap_set (heap_old (o := .cells #[.int .i64 n] 3) (by simp; omega) (heap_old (o := .cells #[.int .i64 0, .int .i64 0] 31) (by simp; omega) (heap_old (o := .cells #[.int .i64 kd, .string nm, .slice A n1 c1, .slice B n2 c2] 29) hl hb))) 0 (.int .i64 (n + 1 : Nat))
    simpa using this
  · exact ((((Keeps.refl (· = bn) wo).alloc _).alloc _).alloc _).set (b := bn) (Or.inl rfl) 0 _
noncomputable def c_ck_r0 : Code := sub [0] (Tryd.f100.body.getD .skip)
set_option maxRecDepth 1000000 in
set_option maxHeartbeats 16000000 in
theorem ck_r0_wp {Q : Exit → Act → World → Prop} {bn bo bw d : Nat} {wo : World} {kd : Int} {nm : ByteArray} {A B : Option Addr} {n1 c1 n2 c2 : Nat} (hN : ∀ a', Frm 133 [(1, .int .i64 (d : Nat)), (2, .pointer (some ⟨bn, 0, none⟩)), (3, .pointer (some ⟨bo, 0, none⟩)), (4, .pointer (some ⟨bw, 0, none⟩)), (5, .pointer (some ⟨wo.heap.size, 0, none⟩)), (7, .pointer (some ⟨wo.heap.size + 1, 0, none⟩))] a' → Q .normal a' ((wo.alloc (.cells #[.int .i64 kd, .string nm, .slice A n1 c1, .slice B n2 c2] 29)).alloc (.cells #[.int .i64 0, .int .i64 0] 31))) : ∀ ac, Frm 133 [(0, .agg #[.int .i64 kd, .string nm, .slice A n1 c1, .slice B n2 c2]), (1, .int .i64 (d : Nat)), (2, .pointer (some ⟨bn, 0, none⟩)), (3, .pointer (some ⟨bo, 0, none⟩)), (4, .pointer (some ⟨bw, 0, none⟩))] ac → Code.wp Tryd.prog c_ck_r0 Q ac wo := by
  refine frm_open ?_
  refine frame_ck ?_
  intros
  rename_i hq
  obtain ⟨-, -, e0q, e1q, e2q, e3q, e4q, -⟩ := hq
  obtain rfl := sI e0q
  obtain rfl := sI e1q
  obtain rfl := sI e2q
  obtain rfl := sI e3q
  obtain rfl := sI e4q
  conv => arg 2; whnf
  have HN := Lib.hid hN
  clear hN
  go_wp2_with fail
  exact HN.out _ (id ⟨rfl, rfl, rfl, rfl, rfl, rfl, rfl, rfl, trivial⟩)
noncomputable def c_ck_r1 : Code := sub [1, 0] (Tryd.f100.body.getD .skip)
set_option maxRecDepth 1000000 in
set_option maxHeartbeats 16000000 in
theorem ck_r1_wp {Q : Exit → Act → World → Prop} {bn bo bw d n : Nat} {wo w : World} (hc : w.heap[bn]? = some (.cells #[.int .i64 n] 3 (0, 0))) (hN : ∀ a', Frm 133 [(1, .int .i64 (d : Nat)), (2, .pointer (some ⟨bn, 0, none⟩)), (3, .pointer (some ⟨bo, 0, none⟩)), (4, .pointer (some ⟨bw, 0, none⟩)), (5, .pointer (some ⟨wo.heap.size, 0, none⟩)), (7, .pointer (some ⟨wo.heap.size + 1, 0, none⟩)), (8, .pointer (some ⟨w.heap.size, 0, none⟩))] a' → Q .normal a' (w.alloc (.cells #[.int .i64 n] 3))) : ∀ ac, Frm 133 [(1, .int .i64 (d : Nat)), (2, .pointer (some ⟨bn, 0, none⟩)), (3, .pointer (some ⟨bo, 0, none⟩)), (4, .pointer (some ⟨bw, 0, none⟩)), (5, .pointer (some ⟨wo.heap.size, 0, none⟩)), (7, .pointer (some ⟨wo.heap.size + 1, 0, none⟩))] ac → Code.wp Tryd.prog c_ck_r1 Q ac w := by
  refine frm_open ?_
  refine frame_ck ?_
  intros
  rename_i hq
  obtain ⟨-, -, e0q, e1q, e2q, e3q, e4q, e5q, -⟩ := hq
  obtain rfl := sI e0q
  obtain rfl := sI e1q
  obtain rfl := sI e2q
  obtain rfl := sI e3q
  obtain rfl := sI e4q
  obtain rfl := sI e5q
  conv => arg 2; whnf
  have c0 := cellv hc 0 rfl
  have cl := lt_heap hc
  clear hc
  have HN := Lib.hid hN
  clear hN
  go_wp2_with fail
  exact HN.out _ (id ⟨rfl, rfl, rfl, rfl, rfl, rfl, rfl, rfl, rfl, trivial⟩)
noncomputable def c_ck_r2 : Code := sub [1, 1, 0] (Tryd.f100.body.getD .skip)
set_option maxRecDepth 1000000 in
set_option maxHeartbeats 16000000 in
theorem ck_r2_wp {Q : Exit → Act → World → Prop} {bn bo bw d n : Nat} {wo w : World} {v8 : Value} (hn : n ≤ 200) (hc : w.heap[bn]? = some (.cells #[.int .i64 n] 3 (0, 0))) (hN : ∀ a', Frm 133 [(1, .int .i64 (d : Nat)), (2, .pointer (some ⟨bn, 0, none⟩)), (3, .pointer (some ⟨bo, 0, none⟩)), (4, .pointer (some ⟨bw, 0, none⟩)), (5, .pointer (some ⟨wo.heap.size, 0, none⟩)), (7, .pointer (some ⟨wo.heap.size + 1, 0, none⟩)), (8, v8)] a' → Q .normal a' (w.setCell ⟨bn, 0, none⟩ (.int .i64 ((n : Int) + 1)))) : ∀ ac, Frm 133 [(1, .int .i64 (d : Nat)), (2, .pointer (some ⟨bn, 0, none⟩)), (3, .pointer (some ⟨bo, 0, none⟩)), (4, .pointer (some ⟨bw, 0, none⟩)), (5, .pointer (some ⟨wo.heap.size, 0, none⟩)), (7, .pointer (some ⟨wo.heap.size + 1, 0, none⟩)), (8, v8)] ac → Code.wp Tryd.prog c_ck_r2 Q ac w := by
  refine frm_open ?_
  refine frame_ck ?_
  intros
  rename_i hq
  obtain ⟨-, -, e0q, e1q, e2q, e3q, e4q, e5q, e6q, -⟩ := hq
  obtain rfl := sI e0q
  obtain rfl := sI e1q
  obtain rfl := sI e2q
  obtain rfl := sI e3q
  obtain rfl := sI e4q
  obtain rfl := sI e5q
  obtain rfl := sI e6q
  conv => arg 2; whnf
  have c0 := cellv hc 0 rfl
  have cf := free_heap hc 0
  have cl := lt_heap hc
  have hn4 : (n : Int) ≤ 5000 := by omega
  clear hc
  have HN := Lib.hid hN
  clear hN
  go_wp2_with fail
  exact HN.out _ (id ⟨rfl, rfl, rfl, rfl, rfl, rfl, rfl, rfl, rfl, trivial⟩)
noncomputable def c_ck_r3 : Code := sub [1, 1, 1, 0] (Tryd.f100.body.getD .skip)
set_option maxRecDepth 1000000 in
set_option maxHeartbeats 16000000 in
theorem ck_r3_wp {Q : Exit → Act → World → Prop} {bn bo bw d : Nat} {wo w : World} (hN : ∀ a', Frm 133 [(1, .int .i64 (d : Nat)), (2, .pointer (some ⟨bn, 0, none⟩)), (3, .pointer (some ⟨bo, 0, none⟩)), (4, .pointer (some ⟨bw, 0, none⟩)), (5, .pointer (some ⟨wo.heap.size, 0, none⟩)), (7, .pointer (some ⟨wo.heap.size + 1, 0, none⟩)), (9, (.func (Fn.func 101) #[] #[.pointer (some ⟨wo.heap.size + 1 + 1, 0, none⟩)]))] a' → Q .normal a' w) : ∀ ac, Frm 133 [(1, .int .i64 (d : Nat)), (2, .pointer (some ⟨bn, 0, none⟩)), (3, .pointer (some ⟨bo, 0, none⟩)), (4, .pointer (some ⟨bw, 0, none⟩)), (5, .pointer (some ⟨wo.heap.size, 0, none⟩)), (7, .pointer (some ⟨wo.heap.size + 1, 0, none⟩)), (8, .pointer (some ⟨wo.heap.size + 1 + 1, 0, none⟩))] ac → Code.wp Tryd.prog c_ck_r3 Q ac w := by
  refine frm_open ?_
  refine frame_ck ?_
  intros
  rename_i hq
  obtain ⟨-, -, e0q, e1q, e2q, e3q, e4q, e5q, e6q, -⟩ := hq
  obtain rfl := sI e0q
  obtain rfl := sI e1q
  obtain rfl := sI e2q
  obtain rfl := sI e3q
  obtain rfl := sI e4q
  obtain rfl := sI e5q
  obtain rfl := sI e6q
  conv => arg 2; whnf
  have HN := Lib.hid hN
  clear hN
  go_wp2_with fail
  exact HN.out _ (id ⟨rfl, rfl, rfl, rfl, rfl, rfl, rfl, rfl, rfl, trivial⟩)
noncomputable def c_ck_r4 : Code := sub [1, 1, 1, 1, 0, 0] (Tryd.f100.body.getD .skip)
set_option maxRecDepth 1000000 in
set_option maxHeartbeats 16000000 in
theorem ck_r4_wp {Q : Exit → Act → World → Prop} {bn bo bw d n m : Nat} {wo w : World} {kd : Int} {nm : ByteArray} {A B : Option Addr} {n1 c1 n2 c2 : Nat} (hs : CS wo w bn kd nm A n1 c1 B n2 c2 n m) (hN : ∀ a', Frm 133 [(1, .int .i64 (d : Nat)), (2, .pointer (some ⟨bn, 0, none⟩)), (3, .pointer (some ⟨bo, 0, none⟩)), (4, .pointer (some ⟨bw, 0, none⟩)), (5, .pointer (some ⟨wo.heap.size, 0, none⟩)), (7, .pointer (some ⟨wo.heap.size + 1, 0, none⟩)), (9, (.func (Fn.func 101) #[] #[.pointer (some ⟨wo.heap.size + 1 + 1, 0, none⟩)])), (27, .bool (decide (200 < m ∨ 40 < d)))] a' → Q .normal a' w) : ∀ ac, Frm 133 [(1, .int .i64 (d : Nat)), (2, .pointer (some ⟨bn, 0, none⟩)), (3, .pointer (some ⟨bo, 0, none⟩)), (4, .pointer (some ⟨bw, 0, none⟩)), (5, .pointer (some ⟨wo.heap.size, 0, none⟩)), (7, .pointer (some ⟨wo.heap.size + 1, 0, none⟩)), (9, (.func (Fn.func 101) #[] #[.pointer (some ⟨wo.heap.size + 1 + 1, 0, none⟩)]))] ac → Code.wp Tryd.prog c_ck_r4 Q ac w := by
  refine frm_open ?_
  refine frame_ck ?_
  intros
  rename_i hq
  obtain ⟨-, -, e0q, e1q, e2q, e3q, e4q, e5q, e6q, -⟩ := hq
  obtain rfl := sI e0q
  obtain rfl := sI e1q
  obtain rfl := sI e2q
  obtain rfl := sI e3q
  obtain rfl := sI e4q
  obtain rfl := sI e5q
  obtain rfl := sI e6q
  conv => arg 2; whnf
  have cc := cellv hs.c 0 rfl
  have cf := free_heap hs.c 0
  have cl := lt_heap hs.c
  have HS := Lib.hid hs
  clear hs
  by_cases h1 : 200 < m
  · have t1 : decide ((200 : Int) < (m : Int)) = true := decide_eq_true (by omega)
    rw [show decide (200 < m ∨ 40 < d) = true from decide_eq_true (Or.inl h1)] at hN
    clear h1
    have HN := Lib.hid hN
    clear hN
    go_wp2_with fail
    exact HN.out _ (id ⟨rfl, rfl, rfl, rfl, rfl, rfl, rfl, rfl, rfl, rfl, trivial⟩)
  have t1 : decide ((200 : Int) < (m : Int)) = false := decide_eq_false (by omega)
  by_cases h2 : 40 < d
  · have t2 : decide ((40 : Int) < (d : Int)) = true := decide_eq_true (by omega)
    rw [show decide (200 < m ∨ 40 < d) = true from decide_eq_true (Or.inr h2)] at hN
    clear h1 h2
    have HN := Lib.hid hN
    clear hN
    go_wp2_with fail
    exact HN.out _ (id ⟨rfl, rfl, rfl, rfl, rfl, rfl, rfl, rfl, rfl, rfl, trivial⟩)
  · have t2 : decide ((40 : Int) < (d : Int)) = false := decide_eq_false (by omega)
    rw [show decide (200 < m ∨ 40 < d) = false from decide_eq_false (fun h => by omega)] at hN
    clear h1 h2
    have HN := Lib.hid hN
    clear hN
    go_wp2_with fail
    exact HN.out _ (id ⟨rfl, rfl, rfl, rfl, rfl, rfl, rfl, rfl, rfl, rfl, trivial⟩)
noncomputable def c_ck_r5 : Code := sub [1, 1, 1, 1, 0, 1, 0, 0] (Tryd.f100.body.getD .skip)
set_option maxRecDepth 1000000 in
set_option maxHeartbeats 16000000 in
theorem ck_r5_wp {Q : Exit → Act → World → Prop} {bn bo bw d n m : Nat} {wo w : World} {kd : Int} {nm : ByteArray} {A B : Option Addr} {n1 c1 n2 c2 : Nat} (hs : CS wo w bn kd nm A n1 c1 B n2 c2 n m) (hN : ∀ a' w', Frm 133 [(7, .pointer (some ⟨wo.heap.size + 1, 0, none⟩))] a' → CD wo w' bn m (.int .i64 1) (.int .i64 (n : Nat)) → Q .normal a' w') : ∀ ac, Frm 133 [(1, .int .i64 (d : Nat)), (2, .pointer (some ⟨bn, 0, none⟩)), (3, .pointer (some ⟨bo, 0, none⟩)), (4, .pointer (some ⟨bw, 0, none⟩)), (5, .pointer (some ⟨wo.heap.size, 0, none⟩)), (7, .pointer (some ⟨wo.heap.size + 1, 0, none⟩)), (9, (.func (Fn.func 101) #[] #[.pointer (some ⟨wo.heap.size + 1 + 1, 0, none⟩)]))] ac → Code.wp Tryd.prog c_ck_r5 Q ac w := by
  refine frm_open ?_
  refine frame_ck ?_
  intros
  rename_i hq
  obtain ⟨-, -, e0q, e1q, e2q, e3q, e4q, e5q, e6q, -⟩ := hq
  obtain rfl := sI e0q
  obtain rfl := sI e1q
  obtain rfl := sI e2q
  obtain rfl := sI e3q
  obtain rfl := sI e4q
  obtain rfl := sI e5q
  obtain rfl := sI e6q
  conv => arg 2; whnf
  have hb := badF_any (wo.heap.size + 1 + 1) n 1 w hs.p
  have HN := Lib.hid hN
  have HB := Lib.hid hb
  clear hN hb
  have HS := Lib.hid hs
  clear hs
  go_wp2_with fail
  (with_reducible refine HB.out.mono ?_)
  rintro e w1 ⟨rfl, hb1⟩
  have hs := HS.out.below hb1
  have rc0 := cellv hs.r 0 rfl
  have rc1 := cellv hs.r 1 rfl
  have rf0 := free_heap hs.r 0
  have rf1 := free_heap hs.r 1
  have rl := lt_heap hs.r
  have HS := Lib.hid hs
  clear hs
  clear hb1
  go_wp2_with fail
  exact HN.out _ _ (id ⟨rfl, rfl, rfl, trivial⟩) (HS.out.put _ _)
noncomputable def c_ck_r6 : Code := sub [1, 1, 1, 1, 1, 0] (Tryd.f100.body.getD .skip)
set_option maxRecDepth 1000000 in
set_option maxHeartbeats 16000000 in
theorem ck_r6_wp {Q : Exit → Act → World → Prop} {bn bo bw d n m : Nat} {wo w : World} {kd : Int} {nm : ByteArray} {A B : Option Addr} {n1 c1 n2 c2 : Nat} (hs : CS wo w bn kd nm A n1 c1 B n2 c2 n m) (hN : ∀ a', Frm 133 [(1, .int .i64 (d : Nat)), (2, .pointer (some ⟨bn, 0, none⟩)), (3, .pointer (some ⟨bo, 0, none⟩)), (4, .pointer (some ⟨bw, 0, none⟩)), (5, .pointer (some ⟨wo.heap.size, 0, none⟩)), (7, .pointer (some ⟨wo.heap.size + 1, 0, none⟩)), (9, (.func (Fn.func 101) #[] #[.pointer (some ⟨wo.heap.size + 1 + 1, 0, none⟩)])), (10, .int .i64 (subsI false kd))] a' → Q .normal a' w) : ∀ ac, Frm 133 [(1, .int .i64 (d : Nat)), (2, .pointer (some ⟨bn, 0, none⟩)), (3, .pointer (some ⟨bo, 0, none⟩)), (4, .pointer (some ⟨bw, 0, none⟩)), (5, .pointer (some ⟨wo.heap.size, 0, none⟩)), (7, .pointer (some ⟨wo.heap.size + 1, 0, none⟩)), (9, (.func (Fn.func 101) #[] #[.pointer (some ⟨wo.heap.size + 1 + 1, 0, none⟩)]))] ac → Code.wp Tryd.prog c_ck_r6 Q ac w := by
  refine frm_open ?_
  refine frame_ck ?_
  intros
  rename_i hq
  obtain ⟨-, -, e0q, e1q, e2q, e3q, e4q, e5q, e6q, -⟩ := hq
  obtain rfl := sI e0q
  obtain rfl := sI e1q
  obtain rfl := sI e2q
  obtain rfl := sI e3q
  obtain rfl := sI e4q
  obtain rfl := sI e5q
  obtain rfl := sI e6q
  conv => arg 2; whnf
  have hsb := subs_any kd w
  have a0 := cellv hs.a 0 rfl
  have a1 := cellv hs.a 1 rfl
  have a2 := cellv hs.a 2 rfl
  have a3 := cellv hs.a 3 rfl
  have al := lt_heap hs.a
  have HN := Lib.hid hN
  have HSB := Lib.hid hsb
  clear hN hsb
  have HS := Lib.hid hs
  clear hs
  go_wp2_with fail
  (with_reducible refine HSB.out.mono ?_)
  rintro e w1 ⟨rfl, rfl⟩
  go_wp2_with fail
  exact HN.out _ (id ⟨rfl, rfl, rfl, rfl, rfl, rfl, rfl, rfl, rfl, rfl, trivial⟩)
noncomputable def c_ck_r7 : Code := sub [1, 1, 1, 1, 1, 1, 0, 0] (Tryd.f100.body.getD .skip)
set_option maxRecDepth 1000000 in
set_option maxHeartbeats 16000000 in
theorem ck_r7_wp {Q : Exit → Act → World → Prop} {q : Int} {hole : Bool} {bn bo bw d n m : Nat} {wo w : World} {kd : Int} {nm : ByteArray} {A B : Option Addr} {n1 c1 n2 c2 : Nat} (hs : CS wo w bn kd nm A n1 c1 B n2 c2 n m) (ho : w.heap[bo]? = some (.cells #[.bool hole] 4 (0, 0))) (hN : ∀ a', Frm 133 [(1, .int .i64 (d : Nat)), (2, .pointer (some ⟨bn, 0, none⟩)), (3, .pointer (some ⟨bo, 0, none⟩)), (4, .pointer (some ⟨bw, 0, none⟩)), (5, .pointer (some ⟨wo.heap.size, 0, none⟩)), (7, .pointer (some ⟨wo.heap.size + 1, 0, none⟩)), (9, (.func (Fn.func 101) #[] #[.pointer (some ⟨wo.heap.size + 1 + 1, 0, none⟩)])), (10, .int .i64 q), (38, .bool (decide (kd = 10) && hole))] a' → Q .normal a' w) : ∀ ac, Frm 133 [(1, .int .i64 (d : Nat)), (2, .pointer (some ⟨bn, 0, none⟩)), (3, .pointer (some ⟨bo, 0, none⟩)), (4, .pointer (some ⟨bw, 0, none⟩)), (5, .pointer (some ⟨wo.heap.size, 0, none⟩)), (7, .pointer (some ⟨wo.heap.size + 1, 0, none⟩)), (9, (.func (Fn.func 101) #[] #[.pointer (some ⟨wo.heap.size + 1 + 1, 0, none⟩)])), (10, .int .i64 q)] ac → Code.wp Tryd.prog c_ck_r7 Q ac w := by
  refine frm_open ?_
  refine frame_ck ?_
  intros
  rename_i hq
  obtain ⟨-, -, e0q, e1q, e2q, e3q, e4q, e5q, e6q, e7q, -⟩ := hq
  obtain rfl := sI e0q
  obtain rfl := sI e1q
  obtain rfl := sI e2q
  obtain rfl := sI e3q
  obtain rfl := sI e4q
  obtain rfl := sI e5q
  obtain rfl := sI e6q
  obtain rfl := sI e7q
  conv => arg 2; whnf
  have o0 := cellv ho 0 rfl
  have ol := lt_heap ho
  have a0 := cellv hs.a 0 rfl
  have a1 := cellv hs.a 1 rfl
  have a2 := cellv hs.a 2 rfl
  have a3 := cellv hs.a 3 rfl
  have al := lt_heap hs.a
  have HS := Lib.hid hs
  clear hs
  clear ho
  by_cases hk : kd = 10
  · subst hk
    rw [show (decide ((10 : Int) = 10) && hole) = hole from by simp] at hN
    have HN := Lib.hid hN
    clear hN
    go_wp2_with fail
    exact HN.out _ (id ⟨rfl, rfl, rfl, rfl, rfl, rfl, rfl, rfl, rfl, rfl, rfl, trivial⟩)
  · have t1 : (kd == 10) = false := beq_eq_false_iff_ne.2 hk
    rw [show (decide (kd = 10) && hole) = false from by simp [hk]] at hN
    clear hk
    have HN := Lib.hid hN
    clear hN
    go_wp2_with fail
    exact HN.out _ (id ⟨rfl, rfl, rfl, rfl, rfl, rfl, rfl, rfl, rfl, rfl, rfl, trivial⟩)
noncomputable def c_ck_r8 : Code := sub [1, 1, 1, 1, 1, 1, 0, 1, 0] (Tryd.f100.body.getD .skip)
set_option maxRecDepth 1000000 in
set_option maxHeartbeats 16000000 in
theorem ck_r8_wp {Q : Exit → Act → World → Prop} {q : Int} {bn bo bw d : Nat} {wo w : World} (hN : ∀ a', Frm 133 [(1, .int .i64 (d : Nat)), (2, .pointer (some ⟨bn, 0, none⟩)), (3, .pointer (some ⟨bo, 0, none⟩)), (4, .pointer (some ⟨bw, 0, none⟩)), (5, .pointer (some ⟨wo.heap.size, 0, none⟩)), (7, .pointer (some ⟨wo.heap.size + 1, 0, none⟩)), (9, (.func (Fn.func 101) #[] #[.pointer (some ⟨wo.heap.size + 1 + 1, 0, none⟩)])), (10, .int .i64 0)] a' → Q .normal a' w) : ∀ ac, Frm 133 [(1, .int .i64 (d : Nat)), (2, .pointer (some ⟨bn, 0, none⟩)), (3, .pointer (some ⟨bo, 0, none⟩)), (4, .pointer (some ⟨bw, 0, none⟩)), (5, .pointer (some ⟨wo.heap.size, 0, none⟩)), (7, .pointer (some ⟨wo.heap.size + 1, 0, none⟩)), (9, (.func (Fn.func 101) #[] #[.pointer (some ⟨wo.heap.size + 1 + 1, 0, none⟩)])), (10, .int .i64 q)] ac → Code.wp Tryd.prog c_ck_r8 Q ac w := by
  refine frm_open ?_
  refine frame_ck ?_
  intros
  rename_i hq
  obtain ⟨-, -, e0q, e1q, e2q, e3q, e4q, e5q, e6q, e7q, -⟩ := hq
  obtain rfl := sI e0q
  obtain rfl := sI e1q
  obtain rfl := sI e2q
  obtain rfl := sI e3q
  obtain rfl := sI e4q
  obtain rfl := sI e5q
  obtain rfl := sI e6q
  obtain rfl := sI e7q
  conv => arg 2; whnf
  have HN := Lib.hid hN
  clear hN
  go_wp2_with fail
  exact HN.out _ (id ⟨rfl, rfl, rfl, rfl, rfl, rfl, rfl, rfl, rfl, rfl, trivial⟩)
noncomputable def c_ck_r9 : Code := sub [1, 1, 1, 1, 1, 1, 1, 0, 0] (Tryd.f100.body.getD .skip)
set_option maxRecDepth 1000000 in
set_option maxHeartbeats 16000000 in
theorem ck_r9_wp {Q : Exit → Act → World → Prop} {q : Int} {bn bo bw d : Nat} {wo w : World} (hN : ∀ a', Frm 133 [(1, .int .i64 (d : Nat)), (2, .pointer (some ⟨bn, 0, none⟩)), (3, .pointer (some ⟨bo, 0, none⟩)), (4, .pointer (some ⟨bw, 0, none⟩)), (5, .pointer (some ⟨wo.heap.size, 0, none⟩)), (7, .pointer (some ⟨wo.heap.size + 1, 0, none⟩)), (9, (.func (Fn.func 101) #[] #[.pointer (some ⟨wo.heap.size + 1 + 1, 0, none⟩)])), (10, .int .i64 q), (40, .bool (decide (q < 0)))] a' → Q .normal a' w) : ∀ ac, Frm 133 [(1, .int .i64 (d : Nat)), (2, .pointer (some ⟨bn, 0, none⟩)), (3, .pointer (some ⟨bo, 0, none⟩)), (4, .pointer (some ⟨bw, 0, none⟩)), (5, .pointer (some ⟨wo.heap.size, 0, none⟩)), (7, .pointer (some ⟨wo.heap.size + 1, 0, none⟩)), (9, (.func (Fn.func 101) #[] #[.pointer (some ⟨wo.heap.size + 1 + 1, 0, none⟩)])), (10, .int .i64 q)] ac → Code.wp Tryd.prog c_ck_r9 Q ac w := by
  refine frm_open ?_
  refine frame_ck ?_
  intros
  rename_i hq
  obtain ⟨-, -, e0q, e1q, e2q, e3q, e4q, e5q, e6q, e7q, -⟩ := hq
  obtain rfl := sI e0q
  obtain rfl := sI e1q
  obtain rfl := sI e2q
  obtain rfl := sI e3q
  obtain rfl := sI e4q
  obtain rfl := sI e5q
  obtain rfl := sI e6q
  obtain rfl := sI e7q
  conv => arg 2; whnf
  by_cases h : q < 0
  · have t1 : decide (q < 0) = true := decide_eq_true h
    rw [t1] at hN
    have HN := Lib.hid hN
    clear hN
    go_wp2_with fail
    exact HN.out _ (id ⟨rfl, rfl, rfl, rfl, rfl, rfl, rfl, rfl, rfl, rfl, rfl, trivial⟩)
  · have t1 : decide (q < 0) = false := decide_eq_false h
    rw [t1] at hN
    have HN := Lib.hid hN
    clear hN
    go_wp2_with fail
    exact HN.out _ (id ⟨rfl, rfl, rfl, rfl, rfl, rfl, rfl, rfl, rfl, rfl, rfl, trivial⟩)
noncomputable def c_ck_r10 : Code := sub [1, 1, 1, 1, 1, 1, 1, 0, 1, 0, 0] (Tryd.f100.body.getD .skip)
set_option maxRecDepth 1000000 in
set_option maxHeartbeats 16000000 in
theorem ck_r10_wp {Q : Exit → Act → World → Prop} {bn bo bw d n m : Nat} {wo w : World} {kd : Int} {nm : ByteArray} {A B : Option Addr} {n1 c1 n2 c2 : Nat} (hs : CS wo w bn kd nm A n1 c1 B n2 c2 n m) (hN : ∀ a' w', Frm 133 [(7, .pointer (some ⟨wo.heap.size + 1, 0, none⟩))] a' → CD wo w' bn m (.int .i64 4) (.int .i64 (n : Nat)) → Q .normal a' w') : ∀ ac, Frm 133 [(1, .int .i64 (d : Nat)), (2, .pointer (some ⟨bn, 0, none⟩)), (3, .pointer (some ⟨bo, 0, none⟩)), (4, .pointer (some ⟨bw, 0, none⟩)), (5, .pointer (some ⟨wo.heap.size, 0, none⟩)), (7, .pointer (some ⟨wo.heap.size + 1, 0, none⟩)), (9, (.func (Fn.func 101) #[] #[.pointer (some ⟨wo.heap.size + 1 + 1, 0, none⟩)]))] ac → Code.wp Tryd.prog c_ck_r10 Q ac w := by
  refine frm_open ?_
  refine frame_ck ?_
  intros
  rename_i hq
  obtain ⟨-, -, e0q, e1q, e2q, e3q, e4q, e5q, e6q, -⟩ := hq
  obtain rfl := sI e0q
  obtain rfl := sI e1q
  obtain rfl := sI e2q
  obtain rfl := sI e3q
  obtain rfl := sI e4q
  obtain rfl := sI e5q
  obtain rfl := sI e6q
  conv => arg 2; whnf
  have hb := badF_any (wo.heap.size + 1 + 1) n 4 w hs.p
  have HN := Lib.hid hN
  have HB := Lib.hid hb
  clear hN hb
  have HS := Lib.hid hs
  clear hs
  go_wp2_with fail
  (with_reducible refine HB.out.mono ?_)
  rintro e w1 ⟨rfl, hb1⟩
  have hs := HS.out.below hb1
  have rc0 := cellv hs.r 0 rfl
  have rc1 := cellv hs.r 1 rfl
  have rf0 := free_heap hs.r 0
  have rf1 := free_heap hs.r 1
  have rl := lt_heap hs.r
  have HS := Lib.hid hs
  clear hs
  clear hb1
  go_wp2_with fail
  exact HN.out _ _ (id ⟨rfl, rfl, rfl, trivial⟩) (HS.out.put _ _)
noncomputable def c_ck_r11 : Code := sub [1, 1, 1, 1, 1, 1, 1, 1, 0] (Tryd.f100.body.getD .skip)
set_option maxRecDepth 1000000 in
set_option maxHeartbeats 16000000 in
theorem ck_r11_wp {Q : Exit → Act → World → Prop} {q : Int} {bn bo bw d n m : Nat} {wo w : World} {kd : Int} {nm : ByteArray} {A B : Option Addr} {n1 c1 n2 c2 : Nat} (hs : CS wo w bn kd nm A n1 c1 B n2 c2 n m) (hN : ∀ a', Frm 133 [(1, .int .i64 (d : Nat)), (2, .pointer (some ⟨bn, 0, none⟩)), (3, .pointer (some ⟨bo, 0, none⟩)), (4, .pointer (some ⟨bw, 0, none⟩)), (5, .pointer (some ⟨wo.heap.size, 0, none⟩)), (7, .pointer (some ⟨wo.heap.size + 1, 0, none⟩)), (9, (.func (Fn.func 101) #[] #[.pointer (some ⟨wo.heap.size + 1 + 1, 0, none⟩)])), (10, .int .i64 q), (11, .bool (decide (n1 = 0)))] a' → Q .normal a' w) : ∀ ac, Frm 133 [(1, .int .i64 (d : Nat)), (2, .pointer (some ⟨bn, 0, none⟩)), (3, .pointer (some ⟨bo, 0, none⟩)), (4, .pointer (some ⟨bw, 0, none⟩)), (5, .pointer (some ⟨wo.heap.size, 0, none⟩)), (7, .pointer (some ⟨wo.heap.size + 1, 0, none⟩)), (9, (.func (Fn.func 101) #[] #[.pointer (some ⟨wo.heap.size + 1 + 1, 0, none⟩)])), (10, .int .i64 q)] ac → Code.wp Tryd.prog c_ck_r11 Q ac w := by
  refine frm_open ?_
  refine frame_ck ?_
  intros
  rename_i hq
  obtain ⟨-, -, e0q, e1q, e2q, e3q, e4q, e5q, e6q, e7q, -⟩ := hq
  obtain rfl := sI e0q
  obtain rfl := sI e1q
  obtain rfl := sI e2q
  obtain rfl := sI e3q
  obtain rfl := sI e4q
  obtain rfl := sI e5q
  obtain rfl := sI e6q
  obtain rfl := sI e7q
  conv => arg 2; whnf
  have a0 := cellv hs.a 0 rfl
  have a1 := cellv hs.a 1 rfl
  have a2 := cellv hs.a 2 rfl
  have a3 := cellv hs.a 3 rfl
  have al := lt_heap hs.a
  have HS := Lib.hid hs
  clear hs
  by_cases h : n1 = 0
  · have t1 : ((n1 : Int) == 0) = true := beq_iff_eq.2 (by omega)
    rw [show decide (n1 = 0) = true from decide_eq_true h] at hN
    clear h
    have HN := Lib.hid hN
    clear hN
    go_wp2_with fail
    exact HN.out _ (id ⟨rfl, rfl, rfl, rfl, rfl, rfl, rfl, rfl, rfl, rfl, rfl, trivial⟩)
  · have t1 : ((n1 : Int) == 0) = false := beq_eq_false_iff_ne.2 (by omega)
    rw [show decide (n1 = 0) = false from decide_eq_false h] at hN
    clear h
    have HN := Lib.hid hN
    clear hN
    go_wp2_with fail
    exact HN.out _ (id ⟨rfl, rfl, rfl, rfl, rfl, rfl, rfl, rfl, rfl, rfl, rfl, trivial⟩)
noncomputable def c_ck_r12 : Code := sub [1, 1, 1, 1, 1, 1, 1, 1, 1, 0, 0] (Tryd.f100.body.getD .skip)
set_option maxRecDepth 1000000 in
set_option maxHeartbeats 16000000 in
theorem ck_r12_wp {Q : Exit → Act → World → Prop} {q : Int} {bb : Bool} {bn bo bw d n m : Nat} {wo w : World} {kd : Int} {nm : ByteArray} {A B : Option Addr} {n1 c1 n2 c2 : Nat} (hs : CS wo w bn kd nm A n1 c1 B n2 c2 n m) (hN : ∀ a', Frm 133 [(1, .int .i64 (d : Nat)), (2, .pointer (some ⟨bn, 0, none⟩)), (3, .pointer (some ⟨bo, 0, none⟩)), (4, .pointer (some ⟨bw, 0, none⟩)), (5, .pointer (some ⟨wo.heap.size, 0, none⟩)), (7, .pointer (some ⟨wo.heap.size + 1, 0, none⟩)), (9, (.func (Fn.func 101) #[] #[.pointer (some ⟨wo.heap.size + 1 + 1, 0, none⟩)])), (10, .int .i64 q), (11, .bool bb), (49, .bool (decide (kd = 2)))] a' → Q .normal a' w) : ∀ ac, Frm 133 [(1, .int .i64 (d : Nat)), (2, .pointer (some ⟨bn, 0, none⟩)), (3, .pointer (some ⟨bo, 0, none⟩)), (4, .pointer (some ⟨bw, 0, none⟩)), (5, .pointer (some ⟨wo.heap.size, 0, none⟩)), (7, .pointer (some ⟨wo.heap.size + 1, 0, none⟩)), (9, (.func (Fn.func 101) #[] #[.pointer (some ⟨wo.heap.size + 1 + 1, 0, none⟩)])), (10, .int .i64 q), (11, .bool bb)] ac → Code.wp Tryd.prog c_ck_r12 Q ac w := by
  refine frm_open ?_
  refine frame_ck ?_
  intros
  rename_i hq
  obtain ⟨-, -, e0q, e1q, e2q, e3q, e4q, e5q, e6q, e7q, e8q, -⟩ := hq
  obtain rfl := sI e0q
  obtain rfl := sI e1q
  obtain rfl := sI e2q
  obtain rfl := sI e3q
  obtain rfl := sI e4q
  obtain rfl := sI e5q
  obtain rfl := sI e6q
  obtain rfl := sI e7q
  obtain rfl := sI e8q
  conv => arg 2; whnf
  have a0 := cellv hs.a 0 rfl
  have a1 := cellv hs.a 1 rfl
  have a2 := cellv hs.a 2 rfl
  have a3 := cellv hs.a 3 rfl
  have al := lt_heap hs.a
  have HS := Lib.hid hs
  clear hs
  by_cases h : kd = 2
  · subst h
    rw [show decide ((2 : Int) = 2) = true from rfl] at hN
    have HN := Lib.hid hN
    clear hN
    go_wp2_with fail
    exact HN.out _ (id ⟨rfl, rfl, rfl, rfl, rfl, rfl, rfl, rfl, rfl, rfl, rfl, rfl, trivial⟩)
  · have t1 : (kd == 2) = false := beq_eq_false_iff_ne.2 h
    rw [show decide (kd = 2) = false from decide_eq_false h] at hN
    clear h
    have HN := Lib.hid hN
    clear hN
    go_wp2_with fail
    exact HN.out _ (id ⟨rfl, rfl, rfl, rfl, rfl, rfl, rfl, rfl, rfl, rfl, rfl, rfl, trivial⟩)
noncomputable def c_ck_r13 : Code := sub [1, 1, 1, 1, 1, 1, 1, 1, 1, 0, 1, 0] (Tryd.f100.body.getD .skip)
set_option maxRecDepth 1000000 in
set_option maxHeartbeats 16000000 in
theorem ck_r13_wp {Q : Exit → Act → World → Prop} {q : Int} {bb : Bool} {bn bo bw d n m : Nat} {wo w : World} {kd : Int} {nm : ByteArray} {A B : Option Addr} {n1 c1 n2 c2 : Nat} (hs : CS wo w bn kd nm A n1 c1 B n2 c2 n m) (hN : ∀ a', Frm 133 [(1, .int .i64 (d : Nat)), (2, .pointer (some ⟨bn, 0, none⟩)), (3, .pointer (some ⟨bo, 0, none⟩)), (4, .pointer (some ⟨bw, 0, none⟩)), (5, .pointer (some ⟨wo.heap.size, 0, none⟩)), (7, .pointer (some ⟨wo.heap.size + 1, 0, none⟩)), (9, (.func (Fn.func 101) #[] #[.pointer (some ⟨wo.heap.size + 1 + 1, 0, none⟩)])), (10, .int .i64 q), (11, .bool (decide (n1 ≤ 3)))] a' → Q .normal a' w) : ∀ ac, Frm 133 [(1, .int .i64 (d : Nat)), (2, .pointer (some ⟨bn, 0, none⟩)), (3, .pointer (some ⟨bo, 0, none⟩)), (4, .pointer (some ⟨bw, 0, none⟩)), (5, .pointer (some ⟨wo.heap.size, 0, none⟩)), (7, .pointer (some ⟨wo.heap.size + 1, 0, none⟩)), (9, (.func (Fn.func 101) #[] #[.pointer (some ⟨wo.heap.size + 1 + 1, 0, none⟩)])), (10, .int .i64 q), (11, .bool bb)] ac → Code.wp Tryd.prog c_ck_r13 Q ac w := by
  refine frm_open ?_
  refine frame_ck ?_
  intros
  rename_i hq
  obtain ⟨-, -, e0q, e1q, e2q, e3q, e4q, e5q, e6q, e7q, e8q, -⟩ := hq
  obtain rfl := sI e0q
  obtain rfl := sI e1q
  obtain rfl := sI e2q
  obtain rfl := sI e3q
  obtain rfl := sI e4q
  obtain rfl := sI e5q
  obtain rfl := sI e6q
  obtain rfl := sI e7q
  obtain rfl := sI e8q
  conv => arg 2; whnf
  have a0 := cellv hs.a 0 rfl
  have a1 := cellv hs.a 1 rfl
  have a2 := cellv hs.a 2 rfl
  have a3 := cellv hs.a 3 rfl
  have al := lt_heap hs.a
  have HS := Lib.hid hs
  clear hs
  by_cases h : n1 ≤ 3
  · have t1 : decide ((n1 : Int) ≤ 3) = true := decide_eq_true (by omega)
    rw [show decide (n1 ≤ 3) = true from decide_eq_true h] at hN
    clear h
    have HN := Lib.hid hN
    clear hN
    go_wp2_with fail
    exact HN.out _ (id ⟨rfl, rfl, rfl, rfl, rfl, rfl, rfl, rfl, rfl, rfl, rfl, trivial⟩)
  · have t1 : decide ((n1 : Int) ≤ 3) = false := decide_eq_false (by omega)
    rw [show decide (n1 ≤ 3) = false from decide_eq_false h] at hN
    clear h
    have HN := Lib.hid hN
    clear hN
    go_wp2_with fail
    exact HN.out _ (id ⟨rfl, rfl, rfl, rfl, rfl, rfl, rfl, rfl, rfl, rfl, rfl, trivial⟩)
noncomputable def c_ck_r14 : Code := sub [1, 1, 1, 1, 1, 1, 1, 1, 1, 0, 1, 1, 0] (Tryd.f100.body.getD .skip)
set_option maxRecDepth 1000000 in
set_option maxHeartbeats 16000000 in
theorem ck_r14_wp {Q : Exit → Act → World → Prop} {q : Int} {bb : Bool} {bn bo bw d n m : Nat} {wo w : World} {kd : Int} {nm : ByteArray} {A B : Option Addr} {n1 c1 n2 c2 : Nat} (hs : CS wo w bn kd nm A n1 c1 B n2 c2 n m) (hN : ∀ a', Frm 133 [(1, .int .i64 (d : Nat)), (2, .pointer (some ⟨bn, 0, none⟩)), (3, .pointer (some ⟨bo, 0, none⟩)), (4, .pointer (some ⟨bw, 0, none⟩)), (5, .pointer (some ⟨wo.heap.size, 0, none⟩)), (7, .pointer (some ⟨wo.heap.size + 1, 0, none⟩)), (9, (.func (Fn.func 101) #[] #[.pointer (some ⟨wo.heap.size + 1 + 1, 0, none⟩)])), (10, .int .i64 q), (11, .bool bb), (56, .bool (decide (kd = 3)))] a' → Q .normal a' w) : ∀ ac, Frm 133 [(1, .int .i64 (d : Nat)), (2, .pointer (some ⟨bn, 0, none⟩)), (3, .pointer (some ⟨bo, 0, none⟩)), (4, .pointer (some ⟨bw, 0, none⟩)), (5, .pointer (some ⟨wo.heap.size, 0, none⟩)), (7, .pointer (some ⟨wo.heap.size + 1, 0, none⟩)), (9, (.func (Fn.func 101) #[] #[.pointer (some ⟨wo.heap.size + 1 + 1, 0, none⟩)])), (10, .int .i64 q), (11, .bool bb)] ac → Code.wp Tryd.prog c_ck_r14 Q ac w := by
  refine frm_open ?_
  refine frame_ck ?_
  intros
  rename_i hq
  obtain ⟨-, -, e0q, e1q, e2q, e3q, e4q, e5q, e6q, e7q, e8q, -⟩ := hq
  obtain rfl := sI e0q
  obtain rfl := sI e1q
  obtain rfl := sI e2q
  obtain rfl := sI e3q
  obtain rfl := sI e4q
  obtain rfl := sI e5q
  obtain rfl := sI e6q
  obtain rfl := sI e7q
  obtain rfl := sI e8q
  conv => arg 2; whnf
  have a0 := cellv hs.a 0 rfl
  have a1 := cellv hs.a 1 rfl
  have a2 := cellv hs.a 2 rfl
  have a3 := cellv hs.a 3 rfl
  have al := lt_heap hs.a
  have HS := Lib.hid hs
  clear hs
  by_cases h : kd = 3
  · subst h
    rw [show decide ((3 : Int) = 3) = true from rfl] at hN
    have HN := Lib.hid hN
    clear hN
    go_wp2_with fail
    exact HN.out _ (id ⟨rfl, rfl, rfl, rfl, rfl, rfl, rfl, rfl, rfl, rfl, rfl, rfl, trivial⟩)
  · have t1 : (kd == 3) = false := beq_eq_false_iff_ne.2 h
    rw [show decide (kd = 3) = false from decide_eq_false h] at hN
    clear h
    have HN := Lib.hid hN
    clear hN
    go_wp2_with fail
    exact HN.out _ (id ⟨rfl, rfl, rfl, rfl, rfl, rfl, rfl, rfl, rfl, rfl, rfl, rfl, trivial⟩)
noncomputable def c_ck_r15 : Code := sub [1, 1, 1, 1, 1, 1, 1, 1, 1, 0, 1, 1, 1, 0] (Tryd.f100.body.getD .skip)
set_option maxRecDepth 1000000 in
set_option maxHeartbeats 16000000 in
theorem ck_r15_wp {Q : Exit → Act → World → Prop} {q : Int} {bb : Bool} {bn bo bw d n m : Nat} {wo w : World} {kd : Int} {nm : ByteArray} {A B : Option Addr} {n1 c1 n2 c2 : Nat} (hs : CS wo w bn kd nm A n1 c1 B n2 c2 n m) (hN : ∀ a', Frm 133 [(1, .int .i64 (d : Nat)), (2, .pointer (some ⟨bn, 0, none⟩)), (3, .pointer (some ⟨bo, 0, none⟩)), (4, .pointer (some ⟨bw, 0, none⟩)), (5, .pointer (some ⟨wo.heap.size, 0, none⟩)), (7, .pointer (some ⟨wo.heap.size + 1, 0, none⟩)), (9, (.func (Fn.func 101) #[] #[.pointer (some ⟨wo.heap.size + 1 + 1, 0, none⟩)])), (10, .int .i64 q), (11, .bool (decide (n1 = 2)))] a' → Q .normal a' w) : ∀ ac, Frm 133 [(1, .int .i64 (d : Nat)), (2, .pointer (some ⟨bn, 0, none⟩)), (3, .pointer (some ⟨bo, 0, none⟩)), (4, .pointer (some ⟨bw, 0, none⟩)), (5, .pointer (some ⟨wo.heap.size, 0, none⟩)), (7, .pointer (some ⟨wo.heap.size + 1, 0, none⟩)), (9, (.func (Fn.func 101) #[] #[.pointer (some ⟨wo.heap.size + 1 + 1, 0, none⟩)])), (10, .int .i64 q), (11, .bool bb)] ac → Code.wp Tryd.prog c_ck_r15 Q ac w := by
  refine frm_open ?_
  refine frame_ck ?_
  intros
  rename_i hq
  obtain ⟨-, -, e0q, e1q, e2q, e3q, e4q, e5q, e6q, e7q, e8q, -⟩ := hq
  obtain rfl := sI e0q
  obtain rfl := sI e1q
  obtain rfl := sI e2q
  obtain rfl := sI e3q
  obtain rfl := sI e4q
  obtain rfl := sI e5q
  obtain rfl := sI e6q
  obtain rfl := sI e7q
  obtain rfl := sI e8q
  conv => arg 2; whnf
  have a0 := cellv hs.a 0 rfl
  have a1 := cellv hs.a 1 rfl
  have a2 := cellv hs.a 2 rfl
  have a3 := cellv hs.a 3 rfl
  have al := lt_heap hs.a
  have HS := Lib.hid hs
  clear hs
  by_cases h : n1 = 2
  · have t1 : ((n1 : Int) == 2) = true := beq_iff_eq.2 (by omega)
    rw [show decide (n1 = 2) = true from decide_eq_true h] at hN
    clear h
    have HN := Lib.hid hN
    clear hN
    go_wp2_with fail
    exact HN.out _ (id ⟨rfl, rfl, rfl, rfl, rfl, rfl, rfl, rfl, rfl, rfl, rfl, trivial⟩)
  · have t1 : ((n1 : Int) == 2) = false := beq_eq_false_iff_ne.2 (by omega)
    rw [show decide (n1 = 2) = false from decide_eq_false h] at hN
    clear h
    have HN := Lib.hid hN
    clear hN
    go_wp2_with fail
    exact HN.out _ (id ⟨rfl, rfl, rfl, rfl, rfl, rfl, rfl, rfl, rfl, rfl, rfl, trivial⟩)
noncomputable def c_ck_r16 : Code := sub [1, 1, 1, 1, 1, 1, 1, 1, 1, 1, 0, 0] (Tryd.f100.body.getD .skip)
set_option maxRecDepth 1000000 in
set_option maxHeartbeats 16000000 in
theorem ck_r16_wp {Q : Exit → Act → World → Prop} {q : Int} {bb : Bool} {bn bo bw d n m : Nat} {wo w : World} {kd : Int} {nm : ByteArray} {A B : Option Addr} {n1 c1 n2 c2 : Nat} (hs : CS wo w bn kd nm A n1 c1 B n2 c2 n m) (hN : ∀ a', Frm 133 [(1, .int .i64 (d : Nat)), (2, .pointer (some ⟨bn, 0, none⟩)), (3, .pointer (some ⟨bo, 0, none⟩)), (4, .pointer (some ⟨bw, 0, none⟩)), (5, .pointer (some ⟨wo.heap.size, 0, none⟩)), (7, .pointer (some ⟨wo.heap.size + 1, 0, none⟩)), (9, (.func (Fn.func 101) #[] #[.pointer (some ⟨wo.heap.size + 1 + 1, 0, none⟩)])), (69, .bool (decide ((n2 : Int) ≠ q) || !bb))] a' → Q .normal a' w) : ∀ ac, Frm 133 [(1, .int .i64 (d : Nat)), (2, .pointer (some ⟨bn, 0, none⟩)), (3, .pointer (some ⟨bo, 0, none⟩)), (4, .pointer (some ⟨bw, 0, none⟩)), (5, .pointer (some ⟨wo.heap.size, 0, none⟩)), (7, .pointer (some ⟨wo.heap.size + 1, 0, none⟩)), (9, (.func (Fn.func 101) #[] #[.pointer (some ⟨wo.heap.size + 1 + 1, 0, none⟩)])), (10, .int .i64 q), (11, .bool bb)] ac → Code.wp Tryd.prog c_ck_r16 Q ac w := by
  refine frm_open ?_
  refine frame_ck ?_
  intros
  rename_i hq
  obtain ⟨-, -, e0q, e1q, e2q, e3q, e4q, e5q, e6q, e7q, e8q, -⟩ := hq
  obtain rfl := sI e0q
  obtain rfl := sI e1q
  obtain rfl := sI e2q
  obtain rfl := sI e3q
  obtain rfl := sI e4q
  obtain rfl := sI e5q
  obtain rfl := sI e6q
  obtain rfl := sI e7q
  obtain rfl := sI e8q
  conv => arg 2; whnf
  have a0 := cellv hs.a 0 rfl
  have a1 := cellv hs.a 1 rfl
  have a2 := cellv hs.a 2 rfl
  have a3 := cellv hs.a 3 rfl
  have al := lt_heap hs.a
  have HS := Lib.hid hs
  clear hs
  by_cases h : (n2 : Int) = q
  · have t1 : ((n2 : Int) != q) = false := by rw [bne_eq_false_iff_eq]; exact h
    rw [show (decide ((n2 : Int) ≠ q) || !bb) = !bb from by simp [h]] at hN
    clear h
    have HN := Lib.hid hN
    clear hN
    cases bb
    · go_wp2_with fail
      exact HN.out _ (id ⟨rfl, rfl, rfl, rfl, rfl, rfl, rfl, rfl, rfl, rfl, trivial⟩)
    · go_wp2_with fail
      exact HN.out _ (id ⟨rfl, rfl, rfl, rfl, rfl, rfl, rfl, rfl, rfl, rfl, trivial⟩)
  · have t1 : ((n2 : Int) != q) = true := bne_iff_ne.2 h
    rw [show (decide ((n2 : Int) ≠ q) || !bb) = true from by simp [h]] at hN
    clear h
    have HN := Lib.hid hN
    clear hN
    go_wp2_with fail
    exact HN.out _ (id ⟨rfl, rfl, rfl, rfl, rfl, rfl, rfl, rfl, rfl, rfl, trivial⟩)
noncomputable def c_ck_r17 : Code := sub [1, 1, 1, 1, 1, 1, 1, 1, 1, 1, 0, 1, 0, 0] (Tryd.f100.body.getD .skip)
set_option maxRecDepth 1000000 in
set_option maxHeartbeats 16000000 in
theorem ck_r17_wp {Q : Exit → Act → World → Prop} {bn bo bw d n m : Nat} {wo w : World} {kd : Int} {nm : ByteArray} {A B : Option Addr} {n1 c1 n2 c2 : Nat} (hs : CS wo w bn kd nm A n1 c1 B n2 c2 n m) (hN : ∀ a' w', Frm 133 [(7, .pointer (some ⟨wo.heap.size + 1, 0, none⟩))] a' → CD wo w' bn m (.int .i64 9) (.int .i64 (n : Nat)) → Q .normal a' w') : ∀ ac, Frm 133 [(1, .int .i64 (d : Nat)), (2, .pointer (some ⟨bn, 0, none⟩)), (3, .pointer (some ⟨bo, 0, none⟩)), (4, .pointer (some ⟨bw, 0, none⟩)), (5, .pointer (some ⟨wo.heap.size, 0, none⟩)), (7, .pointer (some ⟨wo.heap.size + 1, 0, none⟩)), (9, (.func (Fn.func 101) #[] #[.pointer (some ⟨wo.heap.size + 1 + 1, 0, none⟩)]))] ac → Code.wp Tryd.prog c_ck_r17 Q ac w := by
  refine frm_open ?_
  refine frame_ck ?_
  intros
  rename_i hq
  obtain ⟨-, -, e0q, e1q, e2q, e3q, e4q, e5q, e6q, -⟩ := hq
  obtain rfl := sI e0q
  obtain rfl := sI e1q
  obtain rfl := sI e2q
  obtain rfl := sI e3q
  obtain rfl := sI e4q
  obtain rfl := sI e5q
  obtain rfl := sI e6q
  conv => arg 2; whnf
  have hb := badF_any (wo.heap.size + 1 + 1) n 9 w hs.p
  have HN := Lib.hid hN
  have HB := Lib.hid hb
  clear hN hb
  have HS := Lib.hid hs
  clear hs
  go_wp2_with fail
  (with_reducible refine HB.out.mono ?_)
  rintro e w1 ⟨rfl, hb1⟩
  have hs := HS.out.below hb1
  have rc0 := cellv hs.r 0 rfl
  have rc1 := cellv hs.r 1 rfl
  have rf0 := free_heap hs.r 0
  have rf1 := free_heap hs.r 1
  have rl := lt_heap hs.r
  have HS := Lib.hid hs
  clear hs
  clear hb1
  go_wp2_with fail
  exact HN.out _ _ (id ⟨rfl, rfl, rfl, trivial⟩) (HS.out.put _ _)

end Go.Proofs.YtflcbbikfdahhaaDoor
