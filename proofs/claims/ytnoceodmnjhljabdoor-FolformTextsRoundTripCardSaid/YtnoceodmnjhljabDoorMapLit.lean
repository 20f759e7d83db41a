/-
  Map literals: the law of an insertion; the two places where a formula's reader looks a kind up.
-/
import Derived.Test.YtnoceodmnjhljabDoorWordsR
import Derived.Test.YtnoceodmnjhljabDoorFrd
import Derived.Test.YtnoceodmnjhljabDoorParts
import Derived.Maps.Own
import Derived.Maps.OwnOps
import Derived.StringKeys
namespace Go.Proofs.YtnoceodmnjhljabDoor
open Go Go.RowKit
set_option linter.unusedSimpArgs false
set_option linter.unusedVariables false

theorem wpList_insert_own {H : Type} {P : Program} (w : World) {ops : Array Oper} {rest : List Oper} {o : Oper} {a : Act} {Q : Exit → Act → World → Prop}
    (hg : o.guard = none) (m x v : Operand) (t : TypeId) (hop : o.op = Op.insert t m x v)
    (k e : TypeId) (K : Go.Maps.Keyed P k) (ht : P.underlying t = some (.map k e)) (R : Value → Option (DataW H × List MemPlace)) (b n : Nat) (D : DataW H)
    (hm : a.eval m = .map (some b)) (hown : w.ownsMap P k R b n D) (hn : n < maxLen) (key val : Value) (kl : Lit) (hx : a.eval x = key) (hv : a.eval v = val) (hkey : keyOf P k key = some kl)
    (d : DataW H) (ps : List MemPlace) (hval : R val = some (d, ps))
    (hK : ∀ w', w'.ownsMap P k R b (n + 1) (D.put kl d) → w.grownBy w' (some b) → wpList P ops Q rest (a.put o.dst undef) w') :
    wpList P ops Q (o :: rest) a w := by
  refine wpList_plain hg fun K' hK' => ?_
  obtain ⟨w', hrun, r1, r2⟩ := hown.update K ht hn hkey hval
  unfold Oper.wp
  simp [execOp, hop, hm, hx, hv, hrun, Result.andThen]
  exact hK' _ _ (hK w' r1 r2)
theorem lawS : Go.Maps.Keyed Tryd.prog 9 := Go.Maps.string_keyed Tryd.underlying9
theorem lawU : Go.Maps.Keyed Tryd.prog 5 := Go.Maps.int_keyed Tryd.underlying5
theorem zeroI (w : World) : (zeroValue 3).run Tryd.prog w = .ok (.int .i64 0) w := by kernel_rfl
theorem ownsMap_below {H : Type} {P : Program} {k : TypeId} {R : Value → Option (DataW H × List MemPlace)} {w w' : World} {b n : Nat} {D : DataW H} (h : w.ownsMap P k R b n D) (hb : Below w.heap.size w w') (hl : b < w.heap.size) : w'.ownsMap P k R b n D := by
  obtain ⟨es, clock, h1, h2⟩ := h
  exact ⟨es, clock, (hb.block b hl).trans h1, h2⟩
theorem byteAt_le (x : ByteArray) (i : Nat) : byteAt x i ≤ 255 := by
  unfold byteAt
  split
  · have := (x[i]'(by assumption)).toNat_lt
    omega
  · omega
theorem sgn_at (b : Nat) : (((((DataW.map (H := Unit) []).put (.int .u8 38) (.lit (.int .i64 5))).put (.int .u8 124) (.lit (.int .i64 6))).put (.int .u8 62) (.lit (.int .i64 7))).atKey (.int .u8 (b : Int)) (.lit (.int .i64 0))) = .lit (.int .i64 (signF b : Int)) := by
  rw [show ((((DataW.map (H := Unit) []).put (.int .u8 38) (.lit (.int .i64 5))).put (.int .u8 124) (.lit (.int .i64 6))).put (.int .u8 62) (.lit (.int .i64 7))) = .map [(.int .u8 38, .lit (.int .i64 5)), (.int .u8 62, .lit (.int .i64 7)), (.int .u8 124, .lit (.int .i64 6))] from by kernel_rfl]
  unfold signF
  by_cases h1 : b = 38
  · subst h1; rfl
  by_cases h2 : b = 124
  · subst h2; rfl
  by_cases h3 : b = 62
  · subst h3; rfl
  rw [if_neg h1, if_neg h2, if_neg h3]
  have e1 : decide (((38 : Int) = (b : Int))) = false := decide_eq_false (by omega)
  have e2 : decide (((62 : Int) = (b : Int))) = false := decide_eq_false (by omega)
  have e3 : decide (((124 : Int) = (b : Int))) = false := decide_eq_false (by omega)
  simp [DataW.atKey, List.find?, Lit.sameKey, e1, e2, e3]
  all_goals omega
theorem u8_wf (x : ByteArray) (i : Nat) : (Lit.int .u8 (byteAt x i : Int)).wf = true := by
  have := byteAt_le x i
  have h1 : IntKind.u8.min = 0 := by rfl
  have h2 : IntKind.u8.max = 255 := by rfl
  simp only [Lit.wf, h1, h2, Bool.and_eq_true, decide_eq_true_eq]
  omega
set_option maxRecDepth 1000000 in
theorem frame_fm {P : Act → Prop} (h : ∀ x0 x1 x2 x3 x4 x5 x6 x7 x8 x9 x10 x11 x12 x13 x14 x15 x16 x17 x18 x19 x20 x21 x22 x23 x24 x25 x26 x27 x28 x29 x30 x31 x32 x33 x34 x35 x36 x37 x38 x39 x40 x41 x42 x43 x44 x45 x46 x47 x48 x49 x50 x51 x52 x53 x54 x55 x56 x57 x58 x59 x60 x61 x62 x63 x64 x65 x66 x67 x68 x69 x70 x71 x72 x73 x74 x75 x76 x77 x78 x79 x80 x81 x82 x83 x84 x85 x86 x87 x88 x89 x90 x91 x92 x93 x94 x95 x96 x97 x98 x99 x100 x101 x102 x103 x104 x105 x106 x107 x108 x109 x110 x111 x112 x113 x114 x115 x116 x117 x118 x119 x120 x121 x122 x123 x124 x125 x126 x127 x128 x129 x130 x131 x132 x133 x134 x135 x136 x137 x138 x139 x140 x141 x142 x143 x144 x145 x146 x147 x148 x149 x150 x151 x152 x153 : Value, P ⟨(x0 :: x1 :: x2 :: x3 :: x4 :: x5 :: x6 :: x7 :: x8 :: x9 :: x10 :: x11 :: x12 :: x13 :: x14 :: x15 :: x16 :: x17 :: x18 :: x19 :: x20 :: x21 :: x22 :: x23 :: x24 :: x25 :: x26 :: x27 :: x28 :: x29 :: x30 :: x31 :: x32 :: x33 :: x34 :: x35 :: x36 :: x37 :: x38 :: x39 :: x40 :: x41 :: x42 :: x43 :: x44 :: x45 :: x46 :: x47 :: x48 :: x49 :: x50 :: x51 :: x52 :: x53 :: x54 :: x55 :: x56 :: x57 :: x58 :: x59 :: x60 :: x61 :: x62 :: x63 :: x64 :: x65 :: x66 :: x67 :: x68 :: x69 :: x70 :: x71 :: x72 :: x73 :: x74 :: x75 :: x76 :: x77 :: x78 :: x79 :: x80 :: x81 :: x82 :: x83 :: x84 :: x85 :: x86 :: x87 :: x88 :: x89 :: x90 :: x91 :: x92 :: x93 :: x94 :: x95 :: x96 :: x97 :: x98 :: x99 :: x100 :: x101 :: x102 :: x103 :: x104 :: x105 :: x106 :: x107 :: x108 :: x109 :: x110 :: x111 :: x112 :: x113 :: x114 :: x115 :: x116 :: x117 :: x118 :: x119 :: x120 :: x121 :: x122 :: x123 :: x124 :: x125 :: x126 :: x127 :: x128 :: x129 :: x130 :: x131 :: x132 :: x133 :: x134 :: x135 :: x136 :: x137 :: x138 :: x139 :: x140 :: x141 :: x142 :: x143 :: x144 :: x145 :: x146 :: x147 :: x148 :: x149 :: x150 :: x151 :: x152 :: x153 :: []).toArray, []⟩) : ∀ a : Act, a.tmps.toList.length = 154 → a.defers = [] → P a := by
  rintro ⟨⟨l⟩, d⟩ hs hd
  simp only at hd
  subst hd
  revert l
  show ∀ l : List Value, l.length = 154 → P ⟨⟨l⟩, []⟩
  refine openS (n := 153) (fun x0 => ?_)
  refine openS (n := 152) (fun x1 => ?_)
  refine openS (n := 151) (fun x2 => ?_)
  refine openS (n := 150) (fun x3 => ?_)
  refine openS (n := 149) (fun x4 => ?_)
  refine openS (n := 148) (fun x5 => ?_)
  refine openS (n := 147) (fun x6 => ?_)
  refine openS (n := 146) (fun x7 => ?_)
  refine openS (n := 145) (fun x8 => ?_)
  refine openS (n := 144) (fun x9 => ?_)
  refine openS (n := 143) (fun x10 => ?_)
  refine openS (n := 142) (fun x11 => ?_)
  refine openS (n := 141) (fun x12 => ?_)
  refine openS (n := 140) (fun x13 => ?_)
  refine openS (n := 139) (fun x14 => ?_)
  refine openS (n := 138) (fun x15 => ?_)
  refine openS (n := 137) (fun x16 => ?_)
  refine openS (n := 136) (fun x17 => ?_)
  refine openS (n := 135) (fun x18 => ?_)
  refine openS (n := 134) (fun x19 => ?_)
  refine openS (n := 133) (fun x20 => ?_)
  refine openS (n := 132) (fun x21 => ?_)
  refine openS (n := 131) (fun x22 => ?_)
  refine openS (n := 130) (fun x23 => ?_)
  refine openS (n := 129) (fun x24 => ?_)
  refine openS (n := 128) (fun x25 => ?_)
  refine openS (n := 127) (fun x26 => ?_)
  refine openS (n := 126) (fun x27 => ?_)
  refine openS (n := 125) (fun x28 => ?_)
  refine openS (n := 124) (fun x29 => ?_)
  refine openS (n := 123) (fun x30 => ?_)
  refine openS (n := 122) (fun x31 => ?_)
  refine openS (n := 121) (fun x32 => ?_)
  refine openS (n := 120) (fun x33 => ?_)
  refine openS (n := 119) (fun x34 => ?_)
  refine openS (n := 118) (fun x35 => ?_)
  refine openS (n := 117) (fun x36 => ?_)
  refine openS (n := 116) (fun x37 => ?_)
  refine openS (n := 115) (fun x38 => ?_)
  refine openS (n := 114) (fun x39 => ?_)
  refine openS (n := 113) (fun x40 => ?_)
  refine openS (n := 112) (fun x41 => ?_)
  refine openS (n := 111) (fun x42 => ?_)
  refine openS (n := 110) (fun x43 => ?_)
  refine openS (n := 109) (fun x44 => ?_)
  refine openS (n := 108) (fun x45 => ?_)
  refine openS (n := 107) (fun x46 => ?_)
  refine openS (n := 106) (fun x47 => ?_)
  refine openS (n := 105) (fun x48 => ?_)
  refine openS (n := 104) (fun x49 => ?_)
  refine openS (n := 103) (fun x50 => ?_)
  refine openS (n := 102) (fun x51 => ?_)
  refine openS (n := 101) (fun x52 => ?_)
  refine openS (n := 100) (fun x53 => ?_)
  refine openS (n := 99) (fun x54 => ?_)
  refine openS (n := 98) (fun x55 => ?_)
  refine openS (n := 97) (fun x56 => ?_)
  refine openS (n := 96) (fun x57 => ?_)
  refine openS (n := 95) (fun x58 => ?_)
  refine openS (n := 94) (fun x59 => ?_)
  refine openS (n := 93) (fun x60 => ?_)
  refine openS (n := 92) (fun x61 => ?_)
  refine openS (n := 91) (fun x62 => ?_)
  refine openS (n := 90) (fun x63 => ?_)
  refine openS (n := 89) (fun x64 => ?_)
  refine openS (n := 88) (fun x65 => ?_)
  refine openS (n := 87) (fun x66 => ?_)
  refine openS (n := 86) (fun x67 => ?_)
  refine openS (n := 85) (fun x68 => ?_)
  refine openS (n := 84) (fun x69 => ?_)
  refine openS (n := 83) (fun x70 => ?_)
  refine openS (n := 82) (fun x71 => ?_)
  refine openS (n := 81) (fun x72 => ?_)
  refine openS (n := 80) (fun x73 => ?_)
  refine openS (n := 79) (fun x74 => ?_)
  refine openS (n := 78) (fun x75 => ?_)
  refine openS (n := 77) (fun x76 => ?_)
  refine openS (n := 76) (fun x77 => ?_)
  refine openS (n := 75) (fun x78 => ?_)
  refine openS (n := 74) (fun x79 => ?_)
  refine openS (n := 73) (fun x80 => ?_)
  refine openS (n := 72) (fun x81 => ?_)
  refine openS (n := 71) (fun x82 => ?_)
  refine openS (n := 70) (fun x83 => ?_)
  refine openS (n := 69) (fun x84 => ?_)
  refine openS (n := 68) (fun x85 => ?_)
  refine openS (n := 67) (fun x86 => ?_)
  refine openS (n := 66) (fun x87 => ?_)
  refine openS (n := 65) (fun x88 => ?_)
  refine openS (n := 64) (fun x89 => ?_)
  refine openS (n := 63) (fun x90 => ?_)
  refine openS (n := 62) (fun x91 => ?_)
  refine openS (n := 61) (fun x92 => ?_)
  refine openS (n := 60) (fun x93 => ?_)
  refine openS (n := 59) (fun x94 => ?_)
  refine openS (n := 58) (fun x95 => ?_)
  refine openS (n := 57) (fun x96 => ?_)
  refine openS (n := 56) (fun x97 => ?_)
  refine openS (n := 55) (fun x98 => ?_)
  refine openS (n := 54) (fun x99 => ?_)
  refine openS (n := 53) (fun x100 => ?_)
  refine openS (n := 52) (fun x101 => ?_)
  refine openS (n := 51) (fun x102 => ?_)
  refine openS (n := 50) (fun x103 => ?_)
  refine openS (n := 49) (fun x104 => ?_)
  refine openS (n := 48) (fun x105 => ?_)
  refine openS (n := 47) (fun x106 => ?_)
  refine openS (n := 46) (fun x107 => ?_)
  refine openS (n := 45) (fun x108 => ?_)
  refine openS (n := 44) (fun x109 => ?_)
  refine openS (n := 43) (fun x110 => ?_)
  refine openS (n := 42) (fun x111 => ?_)
  refine openS (n := 41) (fun x112 => ?_)
  refine openS (n := 40) (fun x113 => ?_)
  refine openS (n := 39) (fun x114 => ?_)
  refine openS (n := 38) (fun x115 => ?_)
  refine openS (n := 37) (fun x116 => ?_)
  refine openS (n := 36) (fun x117 => ?_)
  refine openS (n := 35) (fun x118 => ?_)
  refine openS (n := 34) (fun x119 => ?_)
  refine openS (n := 33) (fun x120 => ?_)
  refine openS (n := 32) (fun x121 => ?_)
  refine openS (n := 31) (fun x122 => ?_)
  refine openS (n := 30) (fun x123 => ?_)
  refine openS (n := 29) (fun x124 => ?_)
  refine openS (n := 28) (fun x125 => ?_)
  refine openS (n := 27) (fun x126 => ?_)
  refine openS (n := 26) (fun x127 => ?_)
  refine openS (n := 25) (fun x128 => ?_)
  refine openS (n := 24) (fun x129 => ?_)
  refine openS (n := 23) (fun x130 => ?_)
  refine openS (n := 22) (fun x131 => ?_)
  refine openS (n := 21) (fun x132 => ?_)
  refine openS (n := 20) (fun x133 => ?_)
  refine openS (n := 19) (fun x134 => ?_)
  refine openS (n := 18) (fun x135 => ?_)
  refine openS (n := 17) (fun x136 => ?_)
  refine openS (n := 16) (fun x137 => ?_)
  refine openS (n := 15) (fun x138 => ?_)
  refine openS (n := 14) (fun x139 => ?_)
  refine openS (n := 13) (fun x140 => ?_)
  refine openS (n := 12) (fun x141 => ?_)
  refine openS (n := 11) (fun x142 => ?_)
  refine openS (n := 10) (fun x143 => ?_)
  refine openS (n := 9) (fun x144 => ?_)
  refine openS (n := 8) (fun x145 => ?_)
  refine openS (n := 7) (fun x146 => ?_)
  refine openS (n := 6) (fun x147 => ?_)
  refine openS (n := 5) (fun x148 => ?_)
  refine openS (n := 4) (fun x149 => ?_)
  refine openS (n := 3) (fun x150 => ?_)
  refine openS (n := 2) (fun x151 => ?_)
  refine openS (n := 1) (fun x152 => ?_)
  refine openS (n := 0) (fun x153 => ?_)
  refine open0 ?_
  exact h x0 x1 x2 x3 x4 x5 x6 x7 x8 x9 x10 x11 x12 x13 x14 x15 x16 x17 x18 x19 x20 x21 x22 x23 x24 x25 x26 x27 x28 x29 x30 x31 x32 x33 x34 x35 x36 x37 x38 x39 x40 x41 x42 x43 x44 x45 x46 x47 x48 x49 x50 x51 x52 x53 x54 x55 x56 x57 x58 x59 x60 x61 x62 x63 x64 x65 x66 x67 x68 x69 x70 x71 x72 x73 x74 x75 x76 x77 x78 x79 x80 x81 x82 x83 x84 x85 x86 x87 x88 x89 x90 x91 x92 x93 x94 x95 x96 x97 x98 x99 x100 x101 x102 x103 x104 x105 x106 x107 x108 x109 x110 x111 x112 x113 x114 x115 x116 x117 x118 x119 x120 x121 x122 x123 x124 x125 x126 x127 x128 x129 x130 x131 x132 x133 x134 x135 x136 x137 x138 x139 x140 x141 x142 x143 x144 x145 x146 x147 x148 x149 x150 x151 x152 x153
noncomputable def c_fm_r27 : Code := sub [1, 1, 1, 1, 1, 1, 1, 1, 1, 0, 1, 0, 1, 1, 1, 0, 1, 0] (Tryd.f21.body.getD .skip)
set_option maxRecDepth 1000000 in
set_option maxHeartbeats 16000000 in
theorem fm_r27_wp {Q : Exit → Act → World → Prop} {r : Nat} {d : Int} {R4 : Value} {a : ByteArray} {w : World} (hab : a = wAll ∨ a = wSome) (hN : ∀ a' w', Frm 154 [(0, .pointer (some ⟨r, 0, none⟩)), (1, .int .i64 d), (4, R4), (6, .string a), (7, .int .i64 (if a = wAll then 8 else 9))] a' → Below w.heap.size w w' → w.heap.size ≤ w'.heap.size → Q .normal a' w') : ∀ ac, Frm 154 [(0, .pointer (some ⟨r, 0, none⟩)), (1, .int .i64 d), (4, R4), (6, .string a)] ac → Code.wp Tryd.prog c_fm_r27 Q ac w := by
  refine frm_open ?_
  refine frame_fm ?_
  intros
  rename_i hq
  obtain ⟨-, -, e0q, e1q, e2q, e3q, -⟩ := hq
  have e0q := (Option.some.inj e0q).symm; subst e0q
  have e1q := (Option.some.inj e1q).symm; subst e1q
  have e2q := (Option.some.inj e2q).symm; subst e2q
  have e3q := (Option.some.inj e3q).symm; subst e3q
  conv => arg 2; whnf
  have hmm := @run_makeMap Tryd.prog
  have HN := Lib.hid hN
  clear hN
  have hkA : keyOf Tryd.prog 9 (.string wAll) = some (.string wAll.data.toList) := Go.WideMaps.keyOf_string_mk Tryd.underlying9 (s := wAll) (by decide +kernel)
  have hkB : keyOf Tryd.prog 9 (.string wSome) = some (.string wSome.data.toList) := Go.WideMaps.keyOf_string_mk Tryd.underlying9 (s := wSome) (by decide +kernel)
  have HKA := Lib.hid hkA
  have HKB := Lib.hid hkB
  have HAB := Lib.hid hab
  clear hkA hkB hab
  have hown0 := World.ownsMap_made (H := Unit) w Tryd.prog 9 (plainElem Tryd.prog 3)
  have HOWN0 := Lib.hid hown0
  clear hown0
  go_wp2_with (refine wpList_insert_own _ rfl _ _ _ 74 rfl 9 3 lawS Tryd.underlying74 _ w.heap.size 0 _ rfl HOWN0.out (by decide) _ _ _ rfl rfl HKA.out _ [] (plainElem_int Tryd.underlying3 (by decide)) ?_)
  intro w1 hown1 hg1
  have HOWN1 := Lib.hid hown1
  have HG1 := Lib.hid hg1
  clear hown1 hg1
  go_wp2_with (refine wpList_insert_own _ rfl _ _ _ 74 rfl 9 3 lawS Tryd.underlying74 _ w.heap.size 1 _ rfl HOWN1.out (by decide) _ _ _ rfl rfl HKB.out _ [] (plainElem_int Tryd.underlying3 (by decide)) ?_)
  intro w2 hown2 hg2
  have HOWN2 := Lib.hid hown2
  have HG2 := Lib.hid hg2
  clear hown2 hg2
  have hB : Below w.heap.size w w2 := ((((Below.refl w.heap.size w).alloc (Nat.le_refl _) _).grown HG1.out (by simp) (fun k hk => by cases hk; exact Nat.le_refl _)).grown HG2.out (by have := HG1.out.size; simp at this; omega) (fun k hk => by cases hk; exact Nat.le_refl _))
  have HB := Lib.hid hB
  clear hB
  rcases HAB.out with rfl | rfl
  · go_wp2_with (at_lookup; refine wpList_lookup_own_int _ rfl _ _ 74 rfl 9 3 .i64 lawS Tryd.underlying74 Tryd.underlying3 (zeroI _) w.heap.size 2 _ rfl HOWN2.out _ _ rfl HKA.out ?_; intro c hat hwc)
    have h8 : (DataW.lit (H := Unit) (Lit.int .i64 8)) = .lit (.int .i64 c) := Eq.trans (by kernel_rfl) hat
    have h9 : c = 8 := by injection h8 with h8; injection h8 with _ h9; exact h9.symm
    clear hat h8 hwc
    subst h9
    replace HN := Lib.hid (fun a' w' => (if_pos (c := wAll = wAll) rfl : (if wAll = wAll then (8 : Int) else 9) = 8) ▸ HN.out a' w')
    go_wp2_with fail
    exact HN.out _ _ (id ⟨rfl, rfl, rfl, rfl, rfl, rfl, rfl, trivial⟩) HB.out HB.out.size
  · go_wp2_with (at_lookup; refine wpList_lookup_own_int _ rfl _ _ 74 rfl 9 3 .i64 lawS Tryd.underlying74 Tryd.underlying3 (zeroI _) w.heap.size 2 _ rfl HOWN2.out _ _ rfl HKB.out ?_; intro c hat hwc)
    have h8 : (DataW.lit (H := Unit) (Lit.int .i64 9)) = .lit (.int .i64 c) := Eq.trans (by kernel_rfl) hat
    have h9 : c = 9 := by injection h8 with h8; injection h8 with _ h9; exact h9.symm
    clear hat h8 hwc
    subst h9
    replace HN := Lib.hid (fun a' w' => (if_neg (c := wSome = wAll) (by decide +kernel) : (if wSome = wAll then (8 : Int) else 9) = 9) ▸ HN.out a' w')
    go_wp2_with fail
    exact HN.out _ _ (id ⟨rfl, rfl, rfl, rfl, rfl, rfl, rfl, trivial⟩) HB.out HB.out.size
set_option maxRecDepth 1000000 in
theorem frame_pr {P : Act → Prop} (h : ∀ x0 x1 x2 x3 x4 x5 x6 x7 x8 x9 x10 x11 x12 x13 x14 x15 x16 x17 x18 x19 x20 x21 x22 x23 x24 x25 x26 x27 x28 x29 x30 x31 x32 x33 x34 x35 x36 x37 x38 x39 x40 x41 x42 x43 x44 x45 x46 x47 x48 x49 x50 x51 x52 x53 x54 x55 x56 x57 x58 x59 x60 x61 x62 x63 x64 x65 x66 x67 x68 x69 x70 x71 x72 x73 x74 x75 x76 x77 x78 x79 x80 x81 x82 x83 x84 x85 x86 x87 x88 x89 x90 x91 x92 x93 x94 x95 x96 x97 x98 x99 x100 x101 x102 x103 x104 x105 x106 x107 x108 x109 x110 x111 x112 x113 x114 x115 x116 x117 x118 x119 x120 x121 x122 x123 x124 x125 x126 x127 x128 x129 x130 x131 x132 x133 x134 x135 x136 x137 x138 x139 x140 x141 x142 x143 x144 x145 x146 x147 x148 x149 x150 x151 x152 x153 x154 x155 x156 x157 x158 x159 x160 x161 x162 x163 x164 x165 x166 x167 x168 x169 x170 x171 x172 : Value, P ⟨(x0 :: x1 :: x2 :: x3 :: x4 :: x5 :: x6 :: x7 :: x8 :: x9 :: x10 :: x11 :: x12 :: x13 :: x14 :: x15 :: x16 :: x17 :: x18 :: x19 :: x20 :: x21 :: x22 :: x23 :: x24 :: x25 :: x26 :: x27 :: x28 :: x29 :: x30 :: x31 :: x32 :: x33 :: x34 :: x35 :: x36 :: x37 :: x38 :: x39 :: x40 :: x41 :: x42 :: x43 :: x44 :: x45 :: x46 :: x47 :: x48 :: x49 :: x50 :: x51 :: x52 :: x53 :: x54 :: x55 :: x56 :: x57 :: x58 :: x59 :: x60 :: x61 :: x62 :: x63 :: x64 :: x65 :: x66 :: x67 :: x68 :: x69 :: x70 :: x71 :: x72 :: x73 :: x74 :: x75 :: x76 :: x77 :: x78 :: x79 :: x80 :: x81 :: x82 :: x83 :: x84 :: x85 :: x86 :: x87 :: x88 :: x89 :: x90 :: x91 :: x92 :: x93 :: x94 :: x95 :: x96 :: x97 :: x98 :: x99 :: x100 :: x101 :: x102 :: x103 :: x104 :: x105 :: x106 :: x107 :: x108 :: x109 :: x110 :: x111 :: x112 :: x113 :: x114 :: x115 :: x116 :: x117 :: x118 :: x119 :: x120 :: x121 :: x122 :: x123 :: x124 :: x125 :: x126 :: x127 :: x128 :: x129 :: x130 :: x131 :: x132 :: x133 :: x134 :: x135 :: x136 :: x137 :: x138 :: x139 :: x140 :: x141 :: x142 :: x143 :: x144 :: x145 :: x146 :: x147 :: x148 :: x149 :: x150 :: x151 :: x152 :: x153 :: x154 :: x155 :: x156 :: x157 :: x158 :: x159 :: x160 :: x161 :: x162 :: x163 :: x164 :: x165 :: x166 :: x167 :: x168 :: x169 :: x170 :: x171 :: x172 :: []).toArray, []⟩) : ∀ a : Act, a.tmps.toList.length = 173 → a.defers = [] → P a := by
  rintro ⟨⟨l⟩, d⟩ hs hd
  simp only at hd
  subst hd
  revert l
  show ∀ l : List Value, l.length = 173 → P ⟨⟨l⟩, []⟩
  refine openS (n := 172) (fun x0 => ?_)
  refine openS (n := 171) (fun x1 => ?_)
  refine openS (n := 170) (fun x2 => ?_)
  refine openS (n := 169) (fun x3 => ?_)
  refine openS (n := 168) (fun x4 => ?_)
  refine openS (n := 167) (fun x5 => ?_)
  refine openS (n := 166) (fun x6 => ?_)
  refine openS (n := 165) (fun x7 => ?_)
  refine openS (n := 164) (fun x8 => ?_)
  refine openS (n := 163) (fun x9 => ?_)
  refine openS (n := 162) (fun x10 => ?_)
  refine openS (n := 161) (fun x11 => ?_)
  refine openS (n := 160) (fun x12 => ?_)
  refine openS (n := 159) (fun x13 => ?_)
  refine openS (n := 158) (fun x14 => ?_)
  refine openS (n := 157) (fun x15 => ?_)
  refine openS (n := 156) (fun x16 => ?_)
  refine openS (n := 155) (fun x17 => ?_)
  refine openS (n := 154) (fun x18 => ?_)
  refine openS (n := 153) (fun x19 => ?_)
  refine openS (n := 152) (fun x20 => ?_)
  refine openS (n := 151) (fun x21 => ?_)
  refine openS (n := 150) (fun x22 => ?_)
  refine openS (n := 149) (fun x23 => ?_)
  refine openS (n := 148) (fun x24 => ?_)
  refine openS (n := 147) (fun x25 => ?_)
  refine openS (n := 146) (fun x26 => ?_)
  refine openS (n := 145) (fun x27 => ?_)
  refine openS (n := 144) (fun x28 => ?_)
  refine openS (n := 143) (fun x29 => ?_)
  refine openS (n := 142) (fun x30 => ?_)
  refine openS (n := 141) (fun x31 => ?_)
  refine openS (n := 140) (fun x32 => ?_)
  refine openS (n := 139) (fun x33 => ?_)
  refine openS (n := 138) (fun x34 => ?_)
  refine openS (n := 137) (fun x35 => ?_)
  refine openS (n := 136) (fun x36 => ?_)
  refine openS (n := 135) (fun x37 => ?_)
  refine openS (n := 134) (fun x38 => ?_)
  refine openS (n := 133) (fun x39 => ?_)
  refine openS (n := 132) (fun x40 => ?_)
  refine openS (n := 131) (fun x41 => ?_)
  refine openS (n := 130) (fun x42 => ?_)
  refine openS (n := 129) (fun x43 => ?_)
  refine openS (n := 128) (fun x44 => ?_)
  refine openS (n := 127) (fun x45 => ?_)
  refine openS (n := 126) (fun x46 => ?_)
  refine openS (n := 125) (fun x47 => ?_)
  refine openS (n := 124) (fun x48 => ?_)
  refine openS (n := 123) (fun x49 => ?_)
  refine openS (n := 122) (fun x50 => ?_)
  refine openS (n := 121) (fun x51 => ?_)
  refine openS (n := 120) (fun x52 => ?_)
  refine openS (n := 119) (fun x53 => ?_)
  refine openS (n := 118) (fun x54 => ?_)
  refine openS (n := 117) (fun x55 => ?_)
  refine openS (n := 116) (fun x56 => ?_)
  refine openS (n := 115) (fun x57 => ?_)
  refine openS (n := 114) (fun x58 => ?_)
  refine openS (n := 113) (fun x59 => ?_)
  refine openS (n := 112) (fun x60 => ?_)
  refine openS (n := 111) (fun x61 => ?_)
  refine openS (n := 110) (fun x62 => ?_)
  refine openS (n := 109) (fun x63 => ?_)
  refine openS (n := 108) (fun x64 => ?_)
  refine openS (n := 107) (fun x65 => ?_)
  refine openS (n := 106) (fun x66 => ?_)
  refine openS (n := 105) (fun x67 => ?_)
  refine openS (n := 104) (fun x68 => ?_)
  refine openS (n := 103) (fun x69 => ?_)
  refine openS (n := 102) (fun x70 => ?_)
  refine openS (n := 101) (fun x71 => ?_)
  refine openS (n := 100) (fun x72 => ?_)
  refine openS (n := 99) (fun x73 => ?_)
  refine openS (n := 98) (fun x74 => ?_)
  refine openS (n := 97) (fun x75 => ?_)
  refine openS (n := 96) (fun x76 => ?_)
  refine openS (n := 95) (fun x77 => ?_)
  refine openS (n := 94) (fun x78 => ?_)
  refine openS (n := 93) (fun x79 => ?_)
  refine openS (n := 92) (fun x80 => ?_)
  refine openS (n := 91) (fun x81 => ?_)
  refine openS (n := 90) (fun x82 => ?_)
  refine openS (n := 89) (fun x83 => ?_)
  refine openS (n := 88) (fun x84 => ?_)
  refine openS (n := 87) (fun x85 => ?_)
  refine openS (n := 86) (fun x86 => ?_)
  refine openS (n := 85) (fun x87 => ?_)
  refine openS (n := 84) (fun x88 => ?_)
  refine openS (n := 83) (fun x89 => ?_)
  refine openS (n := 82) (fun x90 => ?_)
  refine openS (n := 81) (fun x91 => ?_)
  refine openS (n := 80) (fun x92 => ?_)
  refine openS (n := 79) (fun x93 => ?_)
  refine openS (n := 78) (fun x94 => ?_)
  refine openS (n := 77) (fun x95 => ?_)
  refine openS (n := 76) (fun x96 => ?_)
  refine openS (n := 75) (fun x97 => ?_)
  refine openS (n := 74) (fun x98 => ?_)
  refine openS (n := 73) (fun x99 => ?_)
  refine openS (n := 72) (fun x100 => ?_)
  refine openS (n := 71) (fun x101 => ?_)
  refine openS (n := 70) (fun x102 => ?_)
  refine openS (n := 69) (fun x103 => ?_)
  refine openS (n := 68) (fun x104 => ?_)
  refine openS (n := 67) (fun x105 => ?_)
  refine openS (n := 66) (fun x106 => ?_)
  refine openS (n := 65) (fun x107 => ?_)
  refine openS (n := 64) (fun x108 => ?_)
  refine openS (n := 63) (fun x109 => ?_)
  refine openS (n := 62) (fun x110 => ?_)
  refine openS (n := 61) (fun x111 => ?_)
  refine openS (n := 60) (fun x112 => ?_)
  refine openS (n := 59) (fun x113 => ?_)
  refine openS (n := 58) (fun x114 => ?_)
  refine openS (n := 57) (fun x115 => ?_)
  refine openS (n := 56) (fun x116 => ?_)
  refine openS (n := 55) (fun x117 => ?_)
  refine openS (n := 54) (fun x118 => ?_)
  refine openS (n := 53) (fun x119 => ?_)
  refine openS (n := 52) (fun x120 => ?_)
  refine openS (n := 51) (fun x121 => ?_)
  refine openS (n := 50) (fun x122 => ?_)
  refine openS (n := 49) (fun x123 => ?_)
  refine openS (n := 48) (fun x124 => ?_)
  refine openS (n := 47) (fun x125 => ?_)
  refine openS (n := 46) (fun x126 => ?_)
  refine openS (n := 45) (fun x127 => ?_)
  refine openS (n := 44) (fun x128 => ?_)
  refine openS (n := 43) (fun x129 => ?_)
  refine openS (n := 42) (fun x130 => ?_)
  refine openS (n := 41) (fun x131 => ?_)
  refine openS (n := 40) (fun x132 => ?_)
  refine openS (n := 39) (fun x133 => ?_)
  refine openS (n := 38) (fun x134 => ?_)
  refine openS (n := 37) (fun x135 => ?_)
  refine openS (n := 36) (fun x136 => ?_)
  refine openS (n := 35) (fun x137 => ?_)
  refine openS (n := 34) (fun x138 => ?_)
  refine openS (n := 33) (fun x139 => ?_)
  refine openS (n := 32) (fun x140 => ?_)
  refine openS (n := 31) (fun x141 => ?_)
  refine openS (n := 30) (fun x142 => ?_)
  refine openS (n := 29) (fun x143 => ?_)
  refine openS (n := 28) (fun x144 => ?_)
  refine openS (n := 27) (fun x145 => ?_)
  refine openS (n := 26) (fun x146 => ?_)
  refine openS (n := 25) (fun x147 => ?_)
  refine openS (n := 24) (fun x148 => ?_)
  refine openS (n := 23) (fun x149 => ?_)
  refine openS (n := 22) (fun x150 => ?_)
  refine openS (n := 21) (fun x151 => ?_)
  refine openS (n := 20) (fun x152 => ?_)
  refine openS (n := 19) (fun x153 => ?_)
  refine openS (n := 18) (fun x154 => ?_)
  refine openS (n := 17) (fun x155 => ?_)
  refine openS (n := 16) (fun x156 => ?_)
  refine openS (n := 15) (fun x157 => ?_)
  refine openS (n := 14) (fun x158 => ?_)
  refine openS (n := 13) (fun x159 => ?_)
  refine openS (n := 12) (fun x160 => ?_)
  refine openS (n := 11) (fun x161 => ?_)
  refine openS (n := 10) (fun x162 => ?_)
  refine openS (n := 9) (fun x163 => ?_)
  refine openS (n := 8) (fun x164 => ?_)
  refine openS (n := 7) (fun x165 => ?_)
  refine openS (n := 6) (fun x166 => ?_)
  refine openS (n := 5) (fun x167 => ?_)
  refine openS (n := 4) (fun x168 => ?_)
  refine openS (n := 3) (fun x169 => ?_)
  refine openS (n := 2) (fun x170 => ?_)
  refine openS (n := 1) (fun x171 => ?_)
  refine openS (n := 0) (fun x172 => ?_)
  refine open0 ?_
  exact h x0 x1 x2 x3 x4 x5 x6 x7 x8 x9 x10 x11 x12 x13 x14 x15 x16 x17 x18 x19 x20 x21 x22 x23 x24 x25 x26 x27 x28 x29 x30 x31 x32 x33 x34 x35 x36 x37 x38 x39 x40 x41 x42 x43 x44 x45 x46 x47 x48 x49 x50 x51 x52 x53 x54 x55 x56 x57 x58 x59 x60 x61 x62 x63 x64 x65 x66 x67 x68 x69 x70 x71 x72 x73 x74 x75 x76 x77 x78 x79 x80 x81 x82 x83 x84 x85 x86 x87 x88 x89 x90 x91 x92 x93 x94 x95 x96 x97 x98 x99 x100 x101 x102 x103 x104 x105 x106 x107 x108 x109 x110 x111 x112 x113 x114 x115 x116 x117 x118 x119 x120 x121 x122 x123 x124 x125 x126 x127 x128 x129 x130 x131 x132 x133 x134 x135 x136 x137 x138 x139 x140 x141 x142 x143 x144 x145 x146 x147 x148 x149 x150 x151 x152 x153 x154 x155 x156 x157 x158 x159 x160 x161 x162 x163 x164 x165 x166 x167 x168 x169 x170 x171 x172
noncomputable def c_pr_r19 : Code := sub [1, 1, 1, 1, 1, 0] (Tryd.f31.body.getD .skip)
set_option maxRecDepth 1000000 in
set_option maxHeartbeats 16000000 in
theorem pr_r19_wp {Q : Exit → Act → World → Prop} {x : ByteArray} {r i c j m : Nat} {d : Int} {R4 R9 : Value} {w : World} (hr : RdG m w r x i c j) (hN : ∀ a' w', Frm 173 [(0, .pointer (some ⟨r, 0, none⟩)), (1, .int .i64 d), (4, R4), (9, R9), (10, .int .i64 (signF (byteAt x i) : Nat))] a' → Below w.heap.size w w' → Q .normal a' w') : ∀ ac, Frm 173 [(0, .pointer (some ⟨r, 0, none⟩)), (1, .int .i64 d), (4, R4), (9, R9)] ac → Code.wp Tryd.prog c_pr_r19 Q ac w := by
  refine frm_open ?_
  refine frame_pr ?_
  intros
  rename_i hq
  obtain ⟨-, -, e0q, e1q, e2q, e3q, -⟩ := hq
  have e0q := (Option.some.inj e0q).symm; subst e0q
  have e1q := (Option.some.inj e1q).symm; subst e1q
  have e2q := (Option.some.inj e2q).symm; subst e2q
  have e3q := (Option.some.inj e3q).symm; subst e3q
  conv => arg 2; whnf
  have hmm := @run_makeMap Tryd.prog
  have hpk : ∀ W, RdG m W r x i c j → Calls Tryd.prog 30 #[.pointer (some ⟨r, 0, none⟩)] W fun e w' => e = .returned (.int .u8 (byteAt x i)) ∧ Below W.heap.size W w' ∧ w'.heap.size = W.heap.size := fun W h => peekG_any r x i c j W h
  have rl := lt_heap hr
  have HRD := Lib.hid hr
  have HN := Lib.hid hN
  have HPK := Lib.hid hpk
  clear hN hpk
  have hkA : keyOf Tryd.prog 5 (.int .u8 38) = some (.int .u8 38) := Go.Maps.keyOf_int_mk Tryd.underlying5 (by decide)
  have hkB : keyOf Tryd.prog 5 (.int .u8 124) = some (.int .u8 124) := Go.Maps.keyOf_int_mk Tryd.underlying5 (by decide)
  have hkC : keyOf Tryd.prog 5 (.int .u8 62) = some (.int .u8 62) := Go.Maps.keyOf_int_mk Tryd.underlying5 (by decide)
  have hkD : keyOf Tryd.prog 5 (.int .u8 (byteAt x i : Int)) = some (.int .u8 (byteAt x i : Int)) := Go.Maps.keyOf_int_mk Tryd.underlying5 (u8_wf x i)
  have HKA := Lib.hid hkA
  have HKB := Lib.hid hkB
  have HKC := Lib.hid hkC
  have HKD := Lib.hid hkD
  clear hkA hkB hkC hkD hr
  have hown0 := World.ownsMap_made (H := Unit) w Tryd.prog 5 (plainElem Tryd.prog 3)
  have HOWN0 := Lib.hid hown0
  clear hown0
  go_wp2_with (refine wpList_insert_own _ rfl _ _ _ 83 rfl 5 3 lawU Tryd.underlying83 _ w.heap.size 0 _ rfl HOWN0.out (by decide) _ _ _ rfl rfl HKA.out _ [] (plainElem_int Tryd.underlying3 (by decide)) ?_)
  intro w1 hown1 hg1
  have HOWN1 := Lib.hid hown1
  have HG1 := Lib.hid hg1
  clear hown1 hg1
  go_wp2_with (refine wpList_insert_own _ rfl _ _ _ 83 rfl 5 3 lawU Tryd.underlying83 _ w.heap.size 1 _ rfl HOWN1.out (by decide) _ _ _ rfl rfl HKB.out _ [] (plainElem_int Tryd.underlying3 (by decide)) ?_)
  intro w2 hown2 hg2
  have HOWN2 := Lib.hid hown2
  have HG2 := Lib.hid hg2
  clear hown2 hg2
  go_wp2_with (refine wpList_insert_own _ rfl _ _ _ 83 rfl 5 3 lawU Tryd.underlying83 _ w.heap.size 2 _ rfl HOWN2.out (by decide) _ _ _ rfl rfl HKC.out _ [] (plainElem_int Tryd.underlying3 (by decide)) ?_)
  intro w3 hown3 hg3
  have HOWN3 := Lib.hid hown3
  have HG3 := Lib.hid hg3
  clear hown3 hg3
  have hsz3 : w.heap.size + 1 ≤ w3.heap.size := by
    have a1 := HG1.out.size
    have a2 := HG2.out.size
    have a3 := HG3.out.size
    simp at a1
    omega
  have hB : Below w.heap.size w w3 := (((((Below.refl w.heap.size w).alloc (Nat.le_refl _) _).grown HG1.out (by simp) (fun k hk => by cases hk; exact Nat.le_refl _)).grown HG2.out (by have := HG1.out.size; simp at this; omega) (fun k hk => by cases hk; exact Nat.le_refl _)).grown HG3.out (by have := HG1.out.size; have := HG2.out.size; simp at *; omega) (fun k hk => by cases hk; exact Nat.le_refl _))
  have HB := Lib.hid hB
  clear hB
  go_wp2_with fail
  (with_reducible refine (HPK.out _ (HRD.out.below HB.out)).mono ?_)
  rintro e w4 ⟨rfl, hb4, hs4⟩
  have HB4 := Lib.hid hb4
  have HOWN4 := Lib.hid (ownsMap_below HOWN3.out hb4 (by omega))
  clear hb4 hs4
  go_wp2_with (at_lookup; refine wpList_lookup_own_int _ rfl _ _ 83 rfl 5 3 .i64 lawU Tryd.underlying83 Tryd.underlying3 (zeroI _) w.heap.size 3 _ rfl HOWN4.out _ _ rfl HKD.out ?_; intro c2 hat hwc)
  have h8 := (sgn_at (byteAt x i)).symm.trans hat
  have h9 : c2 = (signF (byteAt x i) : Int) := by injection h8 with h8; injection h8 with _ h9; exact h9.symm
  clear hat h8 hwc
  subst h9
  go_wp2_with fail
  exact HN.out _ _ (id ⟨rfl, rfl, rfl, rfl, rfl, rfl, rfl, trivial⟩) ((HB.out).trans (HB4.out.mono (by omega)))

end Go.Proofs.YtnoceodmnjhljabDoor
