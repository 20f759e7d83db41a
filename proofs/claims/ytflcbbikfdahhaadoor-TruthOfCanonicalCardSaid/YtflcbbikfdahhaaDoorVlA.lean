/-
  truth.Value: its regions, by parts (words).
-/
import Derived.Test.YtflcbbikfdahhaaDoorFlt1
import Derived.Test.YtflcbbikfdahhaaDoorBsRJ
import Derived.Test.YtflcbbikfdahhaaDoorVlP
import Derived.Deep.RegionLawGrows
import Derived.Deep.RegionLaw
import Derived.Deep.RegionHeld3
import Derived.Deep.AppendLies
import Derived.ArgAppend
namespace Go.Proofs.YtflcbbikfdahhaaDoor
open Go Go.RowKit
set_option linter.unusedSimpArgs false
set_option linter.unusedVariables false

set_option maxRecDepth 1000000 in
theorem frame_vl {P : Act → Prop} (h : ∀ x0 x1 x2 x3 x4 x5 x6 x7 x8 x9 x10 x11 x12 x13 x14 x15 x16 x17 x18 x19 x20 x21 x22 x23 x24 x25 x26 x27 x28 x29 x30 x31 x32 x33 x34 x35 x36 x37 x38 x39 x40 x41 x42 x43 x44 x45 x46 x47 x48 x49 x50 x51 x52 x53 x54 x55 x56 x57 x58 x59 x60 x61 x62 x63 x64 x65 x66 x67 x68 x69 x70 x71 x72 x73 x74 x75 x76 x77 x78 x79 x80 x81 x82 x83 x84 x85 x86 x87 x88 x89 x90 x91 x92 x93 x94 x95 x96 x97 x98 x99 x100 x101 x102 x103 x104 x105 x106 x107 x108 x109 x110 x111 x112 x113 x114 x115 x116 x117 x118 x119 x120 x121 x122 x123 x124 x125 x126 x127 x128 x129 x130 x131 x132 x133 x134 x135 x136 x137 x138 x139 x140 x141 x142 x143 x144 x145 x146 x147 x148 x149 x150 x151 x152 x153 x154 x155 x156 x157 x158 x159 x160 x161 x162 x163 x164 x165 x166 x167 : Value, P ⟨(x0 :: x1 :: x2 :: x3 :: x4 :: x5 :: x6 :: x7 :: x8 :: x9 :: x10 :: x11 :: x12 :: x13 :: x14 :: x15 :: x16 :: x17 :: x18 :: x19 :: x20 :: x21 :: x22 :: x23 :: x24 :: x25 :: x26 :: x27 :: x28 :: x29 :: x30 :: x31 :: x32 :: x33 :: x34 :: x35 :: x36 :: x37 :: x38 :: x39 :: x40 :: x41 :: x42 :: x43 :: x44 :: x45 :: x46 :: x47 :: x48 :: x49 :: x50 :: x51 :: x52 :: x53 :: x54 :: x55 :: x56 :: x57 :: x58 :: x59 :: x60 :: x61 :: x62 :: x63 :: x64 :: x65 :: x66 :: x67 :: x68 :: x69 :: x70 :: x71 :: x72 :: x73 :: x74 :: x75 :: x76 :: x77 :: x78 :: x79 :: x80 :: x81 :: x82 :: x83 :: x84 :: x85 :: x86 :: x87 :: x88 :: x89 :: x90 :: x91 :: x92 :: x93 :: x94 :: x95 :: x96 :: x97 :: x98 :: x99 :: x100 :: x101 :: x102 :: x103 :: x104 :: x105 :: x106 :: x107 :: x108 :: x109 :: x110 :: x111 :: x112 :: x113 :: x114 :: x115 :: x116 :: x117 :: x118 :: x119 :: x120 :: x121 :: x122 :: x123 :: x124 :: x125 :: x126 :: x127 :: x128 :: x129 :: x130 :: x131 :: x132 :: x133 :: x134 :: x135 :: x136 :: x137 :: x138 :: x139 :: x140 :: x141 :: x142 :: x143 :: x144 :: x145 :: x146 :: x147 :: x148 :: x149 :: x150 :: x151 :: x152 :: x153 :: x154 :: x155 :: x156 :: x157 :: x158 :: x159 :: x160 :: x161 :: x162 :: x163 :: x164 :: x165 :: x166 :: x167 :: []).toArray, []⟩) : ∀ a : Act, a.tmps.toList.length = 168 → a.defers = [] → P a := by
  rintro ⟨⟨l⟩, d⟩ hs hd
  simp only at hd
  subst hd
  revert l
  show ∀ l : List Value, l.length = 168 → P ⟨⟨l⟩, []⟩
  refine openS (n := 167) (fun x0 => ?_)
  refine openS (n := 166) (fun x1 => ?_)
  refine openS (n := 165) (fun x2 => ?_)
  refine openS (n := 164) (fun x3 => ?_)
  refine openS (n := 163) (fun x4 => ?_)
  refine openS (n := 162) (fun x5 => ?_)
  refine openS (n := 161) (fun x6 => ?_)
  refine openS (n := 160) (fun x7 => ?_)
  refine openS (n := 159) (fun x8 => ?_)
  refine openS (n := 158) (fun x9 => ?_)
  refine openS (n := 157) (fun x10 => ?_)
  refine openS (n := 156) (fun x11 => ?_)
  refine openS (n := 155) (fun x12 => ?_)
  refine openS (n := 154) (fun x13 => ?_)
  refine openS (n := 153) (fun x14 => ?_)
  refine openS (n := 152) (fun x15 => ?_)
  refine openS (n := 151) (fun x16 => ?_)
  refine openS (n := 150) (fun x17 => ?_)
  refine openS (n := 149) (fun x18 => ?_)
  refine openS (n := 148) (fun x19 => ?_)
  refine openS (n := 147) (fun x20 => ?_)
  refine openS (n := 146) (fun x21 => ?_)
  refine openS (n := 145) (fun x22 => ?_)
  refine openS (n := 144) (fun x23 => ?_)
  refine openS (n := 143) (fun x24 => ?_)
  refine openS (n := 142) (fun x25 => ?_)
  refine openS (n := 141) (fun x26 => ?_)
  refine openS (n := 140) (fun x27 => ?_)
  refine openS (n := 139) (fun x28 => ?_)
  refine openS (n := 138) (fun x29 => ?_)
  refine openS (n := 137) (fun x30 => ?_)
  refine openS (n := 136) (fun x31 => ?_)
  refine openS (n := 135) (fun x32 => ?_)
  refine openS (n := 134) (fun x33 => ?_)
  refine openS (n := 133) (fun x34 => ?_)
  refine openS (n := 132) (fun x35 => ?_)
  refine openS (n := 131) (fun x36 => ?_)
  refine openS (n := 130) (fun x37 => ?_)
  refine openS (n := 129) (fun x38 => ?_)
  refine openS (n := 128) (fun x39 => ?_)
  refine openS (n := 127) (fun x40 => ?_)
  refine openS (n := 126) (fun x41 => ?_)
  refine openS (n := 125) (fun x42 => ?_)
  refine openS (n := 124) (fun x43 => ?_)
  refine openS (n := 123) (fun x44 => ?_)
  refine openS (n := 122) (fun x45 => ?_)
  refine openS (n := 121) (fun x46 => ?_)
  refine openS (n := 120) (fun x47 => ?_)
  refine openS (n := 119) (fun x48 => ?_)
  refine openS (n := 118) (fun x49 => ?_)
  refine openS (n := 117) (fun x50 => ?_)
  refine openS (n := 116) (fun x51 => ?_)
  refine openS (n := 115) (fun x52 => ?_)
  refine openS (n := 114) (fun x53 => ?_)
  refine openS (n := 113) (fun x54 => ?_)
  refine openS (n := 112) (fun x55 => ?_)
  refine openS (n := 111) (fun x56 => ?_)
  refine openS (n := 110) (fun x57 => ?_)
  refine openS (n := 109) (fun x58 => ?_)
  refine openS (n := 108) (fun x59 => ?_)
  refine openS (n := 107) (fun x60 => ?_)
  refine openS (n := 106) (fun x61 => ?_)
  refine openS (n := 105) (fun x62 => ?_)
  refine openS (n := 104) (fun x63 => ?_)
  refine openS (n := 103) (fun x64 => ?_)
  refine openS (n := 102) (fun x65 => ?_)
  refine openS (n := 101) (fun x66 => ?_)
  refine openS (n := 100) (fun x67 => ?_)
  refine openS (n := 99) (fun x68 => ?_)
  refine openS (n := 98) (fun x69 => ?_)
  refine openS (n := 97) (fun x70 => ?_)
  refine openS (n := 96) (fun x71 => ?_)
  refine openS (n := 95) (fun x72 => ?_)
  refine openS (n := 94) (fun x73 => ?_)
  refine openS (n := 93) (fun x74 => ?_)
  refine openS (n := 92) (fun x75 => ?_)
  refine openS (n := 91) (fun x76 => ?_)
  refine openS (n := 90) (fun x77 => ?_)
  refine openS (n := 89) (fun x78 => ?_)
  refine openS (n := 88) (fun x79 => ?_)
  refine openS (n := 87) (fun x80 => ?_)
  refine openS (n := 86) (fun x81 => ?_)
  refine openS (n := 85) (fun x82 => ?_)
  refine openS (n := 84) (fun x83 => ?_)
  refine openS (n := 83) (fun x84 => ?_)
  refine openS (n := 82) (fun x85 => ?_)
  refine openS (n := 81) (fun x86 => ?_)
  refine openS (n := 80) (fun x87 => ?_)
  refine openS (n := 79) (fun x88 => ?_)
  refine openS (n := 78) (fun x89 => ?_)
  refine openS (n := 77) (fun x90 => ?_)
  refine openS (n := 76) (fun x91 => ?_)
  refine openS (n := 75) (fun x92 => ?_)
  refine openS (n := 74) (fun x93 => ?_)
  refine openS (n := 73) (fun x94 => ?_)
  refine openS (n := 72) (fun x95 => ?_)
  refine openS (n := 71) (fun x96 => ?_)
  refine openS (n := 70) (fun x97 => ?_)
  refine openS (n := 69) (fun x98 => ?_)
  refine openS (n := 68) (fun x99 => ?_)
  refine openS (n := 67) (fun x100 => ?_)
  refine openS (n := 66) (fun x101 => ?_)
  refine openS (n := 65) (fun x102 => ?_)
  refine openS (n := 64) (fun x103 => ?_)
  refine openS (n := 63) (fun x104 => ?_)
  refine openS (n := 62) (fun x105 => ?_)
  refine openS (n := 61) (fun x106 => ?_)
  refine openS (n := 60) (fun x107 => ?_)
  refine openS (n := 59) (fun x108 => ?_)
  refine openS (n := 58) (fun x109 => ?_)
  refine openS (n := 57) (fun x110 => ?_)
  refine openS (n := 56) (fun x111 => ?_)
  refine openS (n := 55) (fun x112 => ?_)
  refine openS (n := 54) (fun x113 => ?_)
  refine openS (n := 53) (fun x114 => ?_)
  refine openS (n := 52) (fun x115 => ?_)
  refine openS (n := 51) (fun x116 => ?_)
  refine openS (n := 50) (fun x117 => ?_)
  refine openS (n := 49) (fun x118 => ?_)
  refine openS (n := 48) (fun x119 => ?_)
  refine openS (n := 47) (fun x120 => ?_)
  refine openS (n := 46) (fun x121 => ?_)
  refine openS (n := 45) (fun x122 => ?_)
  refine openS (n := 44) (fun x123 => ?_)
  refine openS (n := 43) (fun x124 => ?_)
  refine openS (n := 42) (fun x125 => ?_)
  refine openS (n := 41) (fun x126 => ?_)
  refine openS (n := 40) (fun x127 => ?_)
  refine openS (n := 39) (fun x128 => ?_)
  refine openS (n := 38) (fun x129 => ?_)
  refine openS (n := 37) (fun x130 => ?_)
  refine openS (n := 36) (fun x131 => ?_)
  refine openS (n := 35) (fun x132 => ?_)
  refine openS (n := 34) (fun x133 => ?_)
  refine openS (n := 33) (fun x134 => ?_)
  refine openS (n := 32) (fun x135 => ?_)
  refine openS (n := 31) (fun x136 => ?_)
  refine openS (n := 30) (fun x137 => ?_)
  refine openS (n := 29) (fun x138 => ?_)
  refine openS (n := 28) (fun x139 => ?_)
  refine openS (n := 27) (fun x140 => ?_)
  refine openS (n := 26) (fun x141 => ?_)
  refine openS (n := 25) (fun x142 => ?_)
  refine openS (n := 24) (fun x143 => ?_)
  refine openS (n := 23) (fun x144 => ?_)
  refine openS (n := 22) (fun x145 => ?_)
  refine openS (n := 21) (fun x146 => ?_)
  refine openS (n := 20) (fun x147 => ?_)
  refine openS (n := 19) (fun x148 => ?_)
  refine openS (n := 18) (fun x149 => ?_)
  refine openS (n := 17) (fun x150 => ?_)
  refine openS (n := 16) (fun x151 => ?_)
  refine openS (n := 15) (fun x152 => ?_)
  refine openS (n := 14) (fun x153 => ?_)
  refine openS (n := 13) (fun x154 => ?_)
  refine openS (n := 12) (fun x155 => ?_)
  refine openS (n := 11) (fun x156 => ?_)
  refine openS (n := 10) (fun x157 => ?_)
  refine openS (n := 9) (fun x158 => ?_)
  refine openS (n := 8) (fun x159 => ?_)
  refine openS (n := 7) (fun x160 => ?_)
  refine openS (n := 6) (fun x161 => ?_)
  refine openS (n := 5) (fun x162 => ?_)
  refine openS (n := 4) (fun x163 => ?_)
  refine openS (n := 3) (fun x164 => ?_)
  refine openS (n := 2) (fun x165 => ?_)
  refine openS (n := 1) (fun x166 => ?_)
  refine openS (n := 0) (fun x167 => ?_)
  refine open0 ?_
  exact h x0 x1 x2 x3 x4 x5 x6 x7 x8 x9 x10 x11 x12 x13 x14 x15 x16 x17 x18 x19 x20 x21 x22 x23 x24 x25 x26 x27 x28 x29 x30 x31 x32 x33 x34 x35 x36 x37 x38 x39 x40 x41 x42 x43 x44 x45 x46 x47 x48 x49 x50 x51 x52 x53 x54 x55 x56 x57 x58 x59 x60 x61 x62 x63 x64 x65 x66 x67 x68 x69 x70 x71 x72 x73 x74 x75 x76 x77 x78 x79 x80 x81 x82 x83 x84 x85 x86 x87 x88 x89 x90 x91 x92 x93 x94 x95 x96 x97 x98 x99 x100 x101 x102 x103 x104 x105 x106 x107 x108 x109 x110 x111 x112 x113 x114 x115 x116 x117 x118 x119 x120 x121 x122 x123 x124 x125 x126 x127 x128 x129 x130 x131 x132 x133 x134 x135 x136 x137 x138 x139 x140 x141 x142 x143 x144 x145 x146 x147 x148 x149 x150 x151 x152 x153 x154 x155 x156 x157 x158 x159 x160 x161 x162 x163 x164 x165 x166 x167
noncomputable def c_vl_r0 : Code := sub [0] (Tryd.f48.body.getD .skip)
set_option maxRecDepth 1000000 in
set_option maxHeartbeats 16000000 in
theorem vl_r0_wp {Q : Exit → Act → World → Prop} {De : Option Addr} {me ee : Nat} {z : Int} {Am Bm : Option Addr} {nm1 cm nm2 dm : Nat} {wo : World} {kd : Int} {nm : ByteArray} {A B : Option Addr} {n1 c1 n2 c2 : Nat} (hN : ∀ a', Frm 168 [(3, .pointer (some ⟨wo.heap.size, 0, none⟩)), (4, .pointer (some ⟨(wo.heap.size + 1), 0, none⟩)), (5, .pointer (some ⟨(wo.heap.size + 1 + 1), 0, none⟩))] a' → Q .normal a' (((wo.alloc (.cells #[.int .i64 z, .slice Am nm1 cm, .slice Bm nm2 dm] 25)).alloc (.cells #[.int .i64 kd, .string nm, .slice A n1 c1, .slice B n2 c2] 29)).alloc (.cells #[.slice De me ee] 71))) : ∀ ac, Frm 168 [(0, .agg #[.int .i64 z, .slice Am nm1 cm, .slice Bm nm2 dm]), (1, .agg #[.int .i64 kd, .string nm, .slice A n1 c1, .slice B n2 c2]), (2, .slice De me ee)] ac → Code.wp Tryd.prog c_vl_r0 Q ac wo := by
  refine frm_open ?_
  refine frame_vl ?_
  intros
  rename_i hq
  obtain ⟨-, -, e0q, e1q, e2q, -⟩ := hq
  obtain rfl := sI e0q
  obtain rfl := sI e1q
  obtain rfl := sI e2q
  conv => arg 2; whnf
  have HN := Lib.hid hN
  clear hN
  go_wp2_with fail
  exact HN.out _ (id ⟨rfl, rfl, rfl, rfl, rfl, trivial⟩)
noncomputable def c_vl_r1 : Code := sub [1, 0] (Tryd.f48.body.getD .skip)
set_option maxRecDepth 1000000 in
set_option maxHeartbeats 16000000 in
theorem vl_r1_wp {Q : Exit → Act → World → Prop} {wo w : World} (hN : ∀ a', Frm 168 [(3, .pointer (some ⟨wo.heap.size, 0, none⟩)), (4, .pointer (some ⟨(wo.heap.size + 1), 0, none⟩)), (5, .pointer (some ⟨(wo.heap.size + 1 + 1), 0, none⟩)), (7, .func (Fn.func 82) #[] #[.pointer (some ⟨(wo.heap.size + 1 + 1), 0, none⟩), .pointer (some ⟨wo.heap.size, 0, none⟩)])] a' → Q .normal a' w) : ∀ ac, Frm 168 [(3, .pointer (some ⟨wo.heap.size, 0, none⟩)), (4, .pointer (some ⟨(wo.heap.size + 1), 0, none⟩)), (5, .pointer (some ⟨(wo.heap.size + 1 + 1), 0, none⟩))] ac → Code.wp Tryd.prog c_vl_r1 Q ac w := by
  refine frm_open ?_
  refine frame_vl ?_
  intros
  rename_i hq
  obtain ⟨-, -, e0q, e1q, e2q, -⟩ := hq
  obtain rfl := sI e0q
  obtain rfl := sI e1q
  obtain rfl := sI e2q
  conv => arg 2; whnf
  have HN := Lib.hid hN
  clear hN
  go_wp2_with fail
  exact HN.out _ (id ⟨rfl, rfl, rfl, rfl, rfl, rfl, trivial⟩)
noncomputable def c_vl_r2 : Code := sub [1, 1, 0, 0] (Tryd.f48.body.getD .skip)
set_option maxRecDepth 1000000 in
set_option maxHeartbeats 16000000 in
theorem vl_r2_wp {Q : Exit → Act → World → Prop} {wo w : World} {kd : Int} {nm : ByteArray} {A B : Option Addr} {n1 c1 n2 c2 : Nat} (ha : w.heap[wo.heap.size + 1]? = some (.cells #[.int .i64 kd, .string nm, .slice A n1 c1, .slice B n2 c2] 29 (0, 0))) (hN : ∀ a', Frm 168 [(3, .pointer (some ⟨wo.heap.size, 0, none⟩)), (4, .pointer (some ⟨(wo.heap.size + 1), 0, none⟩)), (5, .pointer (some ⟨(wo.heap.size + 1 + 1), 0, none⟩)), (7, .func (Fn.func 82) #[] #[.pointer (some ⟨(wo.heap.size + 1 + 1), 0, none⟩), .pointer (some ⟨wo.heap.size, 0, none⟩)]), (18, .int .i64 kd)] a' → Q .normal a' w) : ∀ ac, Frm 168 [(3, .pointer (some ⟨wo.heap.size, 0, none⟩)), (4, .pointer (some ⟨(wo.heap.size + 1), 0, none⟩)), (5, .pointer (some ⟨(wo.heap.size + 1 + 1), 0, none⟩)), (7, .func (Fn.func 82) #[] #[.pointer (some ⟨(wo.heap.size + 1 + 1), 0, none⟩), .pointer (some ⟨wo.heap.size, 0, none⟩)])] ac → Code.wp Tryd.prog c_vl_r2 Q ac w := by
  refine frm_open ?_
  refine frame_vl ?_
  intros
  rename_i hq
  obtain ⟨-, -, e0q, e1q, e2q, e3q, -⟩ := hq
  obtain rfl := sI e0q
  obtain rfl := sI e1q
  obtain rfl := sI e2q
  obtain rfl := sI e3q
  conv => arg 2; whnf
  have a0 := cellv ha 0 rfl
  have a1 := cellv ha 1 rfl
  have a2 := cellv ha 2 rfl
  have a3 := cellv ha 3 rfl
  have al := lt_heap ha
  clear ha
  have HN := Lib.hid hN
  clear hN
  go_wp2_with fail
  exact HN.out _ (id ⟨rfl, rfl, rfl, rfl, rfl, rfl, rfl, trivial⟩)
noncomputable def c_vl_r3 : Code := sub [1, 1, 0, 1, 0, 0] (Tryd.f48.body.getD .skip)
set_option maxRecDepth 1000000 in
set_option maxHeartbeats 16000000 in
theorem vl_r3_wp {Q : Exit → Act → World → Prop} {kd : Int} {wo w : World} (hN : ∀ a', Frm 168 [(3, .pointer (some ⟨wo.heap.size, 0, none⟩)), (4, .pointer (some ⟨(wo.heap.size + 1), 0, none⟩)), (5, .pointer (some ⟨(wo.heap.size + 1 + 1), 0, none⟩)), (7, .func (Fn.func 82) #[] #[.pointer (some ⟨(wo.heap.size + 1 + 1), 0, none⟩), .pointer (some ⟨wo.heap.size, 0, none⟩)]), (18, .int .i64 kd), (19, .bool (decide (kd = 1)))] a' → Q .normal a' w) : ∀ ac, Frm 168 [(3, .pointer (some ⟨wo.heap.size, 0, none⟩)), (4, .pointer (some ⟨(wo.heap.size + 1), 0, none⟩)), (5, .pointer (some ⟨(wo.heap.size + 1 + 1), 0, none⟩)), (7, .func (Fn.func 82) #[] #[.pointer (some ⟨(wo.heap.size + 1 + 1), 0, none⟩), .pointer (some ⟨wo.heap.size, 0, none⟩)]), (18, .int .i64 kd)] ac → Code.wp Tryd.prog c_vl_r3 Q ac w := by
  refine frm_open ?_
  refine frame_vl ?_
  intros
  rename_i hq
  obtain ⟨-, -, e0q, e1q, e2q, e3q, e4q, -⟩ := hq
  obtain rfl := sI e0q
  obtain rfl := sI e1q
  obtain rfl := sI e2q
  obtain rfl := sI e3q
  obtain rfl := sI e4q
  conv => arg 2; whnf
  by_cases h : kd = 1
  · have t1 : (kd == 1) = true := beq_iff_eq.2 h
    rw [decide_eq_true h] at hN
    clear h
    have HN := Lib.hid hN
    clear hN
    go_wp2_with fail
    exact HN.out _ (id ⟨rfl, rfl, rfl, rfl, rfl, rfl, rfl, rfl, trivial⟩)
  · have t1 : (kd == 1) = false := beq_eq_false_iff_ne.2 h
    rw [decide_eq_false h] at hN
    clear h
    have HN := Lib.hid hN
    clear hN
    go_wp2_with fail
    exact HN.out _ (id ⟨rfl, rfl, rfl, rfl, rfl, rfl, rfl, rfl, trivial⟩)
noncomputable def c_vl_r5 : Code := sub [1, 1, 0, 1, 0, 1, 1, 0] (Tryd.f48.body.getD .skip)
set_option maxRecDepth 1000000 in
set_option maxHeartbeats 16000000 in
theorem vl_r5_wp {Q : Exit → Act → World → Prop} {kd : Int} {wo w : World} (hN : ∀ a', Frm 168 [(3, .pointer (some ⟨wo.heap.size, 0, none⟩)), (4, .pointer (some ⟨(wo.heap.size + 1), 0, none⟩)), (5, .pointer (some ⟨(wo.heap.size + 1 + 1), 0, none⟩)), (7, .func (Fn.func 82) #[] #[.pointer (some ⟨(wo.heap.size + 1 + 1), 0, none⟩), .pointer (some ⟨wo.heap.size, 0, none⟩)]), (18, .int .i64 kd), (21, .bool (decide (kd = 2)))] a' → Q .normal a' w) : ∀ ac, Frm 168 [(3, .pointer (some ⟨wo.heap.size, 0, none⟩)), (4, .pointer (some ⟨(wo.heap.size + 1), 0, none⟩)), (5, .pointer (some ⟨(wo.heap.size + 1 + 1), 0, none⟩)), (7, .func (Fn.func 82) #[] #[.pointer (some ⟨(wo.heap.size + 1 + 1), 0, none⟩), .pointer (some ⟨wo.heap.size, 0, none⟩)]), (18, .int .i64 kd)] ac → Code.wp Tryd.prog c_vl_r5 Q ac w := by
  refine frm_open ?_
  refine frame_vl ?_
  intros
  rename_i hq
  obtain ⟨-, -, e0q, e1q, e2q, e3q, e4q, -⟩ := hq
  obtain rfl := sI e0q
  obtain rfl := sI e1q
  obtain rfl := sI e2q
  obtain rfl := sI e3q
  obtain rfl := sI e4q
  conv => arg 2; whnf
  by_cases h : kd = 2
  · have t1 : (kd == 2) = true := beq_iff_eq.2 h
    rw [decide_eq_true h] at hN
    clear h
    have HN := Lib.hid hN
    clear hN
    go_wp2_with fail
    exact HN.out _ (id ⟨rfl, rfl, rfl, rfl, rfl, rfl, rfl, rfl, trivial⟩)
  · have t1 : (kd == 2) = false := beq_eq_false_iff_ne.2 h
    rw [decide_eq_false h] at hN
    clear h
    have HN := Lib.hid hN
    clear hN
    go_wp2_with fail
    exact HN.out _ (id ⟨rfl, rfl, rfl, rfl, rfl, rfl, rfl, rfl, trivial⟩)
noncomputable def c_vl_r15 : Code := sub [1, 1, 0, 1, 0, 1, 1, 1, 1, 0] (Tryd.f48.body.getD .skip)
set_option maxRecDepth 1000000 in
set_option maxHeartbeats 16000000 in
theorem vl_r15_wp {Q : Exit → Act → World → Prop} {kd : Int} {wo w : World} (hN : ∀ a', Frm 168 [(3, .pointer (some ⟨wo.heap.size, 0, none⟩)), (4, .pointer (some ⟨(wo.heap.size + 1), 0, none⟩)), (5, .pointer (some ⟨(wo.heap.size + 1 + 1), 0, none⟩)), (7, .func (Fn.func 82) #[] #[.pointer (some ⟨(wo.heap.size + 1 + 1), 0, none⟩), .pointer (some ⟨wo.heap.size, 0, none⟩)]), (18, .int .i64 kd), (54, .bool (decide (kd = 3)))] a' → Q .normal a' w) : ∀ ac, Frm 168 [(3, .pointer (some ⟨wo.heap.size, 0, none⟩)), (4, .pointer (some ⟨(wo.heap.size + 1), 0, none⟩)), (5, .pointer (some ⟨(wo.heap.size + 1 + 1), 0, none⟩)), (7, .func (Fn.func 82) #[] #[.pointer (some ⟨(wo.heap.size + 1 + 1), 0, none⟩), .pointer (some ⟨wo.heap.size, 0, none⟩)]), (18, .int .i64 kd)] ac → Code.wp Tryd.prog c_vl_r15 Q ac w := by
  refine frm_open ?_
  refine frame_vl ?_
  intros
  rename_i hq
  obtain ⟨-, -, e0q, e1q, e2q, e3q, e4q, -⟩ := hq
  obtain rfl := sI e0q
  obtain rfl := sI e1q
  obtain rfl := sI e2q
  obtain rfl := sI e3q
  obtain rfl := sI e4q
  conv => arg 2; whnf
  by_cases h : kd = 3
  · have t1 : (kd == 3) = true := beq_iff_eq.2 h
    rw [decide_eq_true h] at hN
    clear h
    have HN := Lib.hid hN
    clear hN
    go_wp2_with fail
    exact HN.out _ (id ⟨rfl, rfl, rfl, rfl, rfl, rfl, rfl, rfl, trivial⟩)
  · have t1 : (kd == 3) = false := beq_eq_false_iff_ne.2 h
    rw [decide_eq_false h] at hN
    clear h
    have HN := Lib.hid hN
    clear hN
    go_wp2_with fail
    exact HN.out _ (id ⟨rfl, rfl, rfl, rfl, rfl, rfl, rfl, rfl, trivial⟩)
noncomputable def c_vl_r4 : Code := sub [1, 1, 0, 1, 0, 1, 0, 0] (Tryd.f48.body.getD .skip)
set_option maxRecDepth 1000000 in
set_option maxHeartbeats 16000000 in
theorem vl_r4_wp {Q : Exit → Act → World → Prop} {wo w : World} (hN : ∀ a', Frm 168 [(6, .bool true)] a' → Q .normal a' w) : ∀ ac, Frm 168 [(3, .pointer (some ⟨wo.heap.size, 0, none⟩)), (4, .pointer (some ⟨(wo.heap.size + 1), 0, none⟩)), (5, .pointer (some ⟨(wo.heap.size + 1 + 1), 0, none⟩)), (7, .func (Fn.func 82) #[] #[.pointer (some ⟨(wo.heap.size + 1 + 1), 0, none⟩), .pointer (some ⟨wo.heap.size, 0, none⟩)])] ac → Code.wp Tryd.prog c_vl_r4 Q ac w := by
  refine frm_open ?_
  refine frame_vl ?_
  intros
  rename_i hq
  obtain ⟨-, -, e0q, e1q, e2q, e3q, -⟩ := hq
  obtain rfl := sI e0q
  obtain rfl := sI e1q
  obtain rfl := sI e2q
  obtain rfl := sI e3q
  conv => arg 2; whnf
  have HN := Lib.hid hN
  clear hN
  go_wp2_with fail
  exact HN.out _ (id ⟨rfl, rfl, rfl, trivial⟩)
noncomputable def c_vl_r6 : Code := sub [1, 1, 0, 1, 0, 1, 1, 1, 0, 0] (Tryd.f48.body.getD .skip)
set_option maxRecDepth 1000000 in
set_option maxHeartbeats 16000000 in
theorem vl_r6_wp {Q : Exit → Act → World → Prop} {wo w : World} (hN : ∀ a', Frm 168 [(3, .pointer (some ⟨wo.heap.size, 0, none⟩)), (4, .pointer (some ⟨(wo.heap.size + 1), 0, none⟩)), (5, .pointer (some ⟨(wo.heap.size + 1 + 1), 0, none⟩)), (7, .func (Fn.func 82) #[] #[.pointer (some ⟨(wo.heap.size + 1 + 1), 0, none⟩), .pointer (some ⟨wo.heap.size, 0, none⟩)]), (8, .slice none 0 0)] a' → Q .normal a' w) : ∀ ac, Frm 168 [(3, .pointer (some ⟨wo.heap.size, 0, none⟩)), (4, .pointer (some ⟨(wo.heap.size + 1), 0, none⟩)), (5, .pointer (some ⟨(wo.heap.size + 1 + 1), 0, none⟩)), (7, .func (Fn.func 82) #[] #[.pointer (some ⟨(wo.heap.size + 1 + 1), 0, none⟩), .pointer (some ⟨wo.heap.size, 0, none⟩)])] ac → Code.wp Tryd.prog c_vl_r6 Q ac w := by
  refine frm_open ?_
  refine frame_vl ?_
  intros
  rename_i hq
  obtain ⟨-, -, e0q, e1q, e2q, e3q, -⟩ := hq
  obtain rfl := sI e0q
  obtain rfl := sI e1q
  obtain rfl := sI e2q
  obtain rfl := sI e3q
  conv => arg 2; whnf
  have HN := Lib.hid hN
  clear hN
  go_wp2_with fail
  exact HN.out _ (id ⟨rfl, rfl, rfl, rfl, rfl, rfl, rfl, trivial⟩)
noncomputable def c_vl_r7 : Code := sub [1, 1, 0, 1, 0, 1, 1, 1, 0, 1, 0, 0] (Tryd.f48.body.getD .skip)
set_option maxRecDepth 1000000 in
set_option maxHeartbeats 16000000 in
theorem vl_r7_wp {Q : Exit → Act → World → Prop} {v : Value} {wo w : World} {kd : Int} {nm : ByteArray} {A B : Option Addr} {n1 c1 n2 c2 : Nat} (ha : w.heap[wo.heap.size + 1]? = some (.cells #[.int .i64 kd, .string nm, .slice A n1 c1, .slice B n2 c2] 29 (0, 0))) (hN : ∀ a', Frm 168 [(3, .pointer (some ⟨wo.heap.size, 0, none⟩)), (4, .pointer (some ⟨(wo.heap.size + 1), 0, none⟩)), (5, .pointer (some ⟨(wo.heap.size + 1 + 1), 0, none⟩)), (7, .func (Fn.func 82) #[] #[.pointer (some ⟨(wo.heap.size + 1 + 1), 0, none⟩), .pointer (some ⟨wo.heap.size, 0, none⟩)]), (8, v), (24, .slice A n1 c1), (25, .int .i64 (n1 : Nat)), (26, .int .i64 (0 : Nat))] a' → Q .normal a' w) : ∀ ac, Frm 168 [(3, .pointer (some ⟨wo.heap.size, 0, none⟩)), (4, .pointer (some ⟨(wo.heap.size + 1), 0, none⟩)), (5, .pointer (some ⟨(wo.heap.size + 1 + 1), 0, none⟩)), (7, .func (Fn.func 82) #[] #[.pointer (some ⟨(wo.heap.size + 1 + 1), 0, none⟩), .pointer (some ⟨wo.heap.size, 0, none⟩)]), (8, v)] ac → Code.wp Tryd.prog c_vl_r7 Q ac w := by
  refine frm_open ?_
  refine frame_vl ?_
  intros
  rename_i hq
  obtain ⟨-, -, e0q, e1q, e2q, e3q, e4q, -⟩ := hq
  obtain rfl := sI e0q
  obtain rfl := sI e1q
  obtain rfl := sI e2q
  obtain rfl := sI e3q
  obtain rfl := sI e4q
  conv => arg 2; whnf
  have a0 := cellv ha 0 rfl
  have a1 := cellv ha 1 rfl
  have a2 := cellv ha 2 rfl
  have a3 := cellv ha 3 rfl
  have al := lt_heap ha
  clear ha
  have HN := Lib.hid hN
  clear hN
  go_wp2_with fail
  exact HN.out _ (id ⟨rfl, rfl, rfl, rfl, rfl, rfl, rfl, rfl, rfl, rfl, trivial⟩)
noncomputable def c_vl_r8 : Code := sub [1, 1, 0, 1, 0, 1, 1, 1, 0, 1, 0, 1, 0, 0, 0] (Tryd.f48.body.getD .skip)
set_option maxRecDepth 1000000 in
set_option maxHeartbeats 16000000 in
theorem vl_r8_wp {Q : Exit → Act → World → Prop} {v : Value} {A : Option Addr} {n1 c1 i : Nat} {wo w : World} (hN : ∀ a', Frm 168 [(3, .pointer (some ⟨wo.heap.size, 0, none⟩)), (4, .pointer (some ⟨(wo.heap.size + 1), 0, none⟩)), (5, .pointer (some ⟨(wo.heap.size + 1 + 1), 0, none⟩)), (7, .func (Fn.func 82) #[] #[.pointer (some ⟨(wo.heap.size + 1 + 1), 0, none⟩), .pointer (some ⟨wo.heap.size, 0, none⟩)]), (8, v), (24, .slice A n1 c1), (25, .int .i64 (n1 : Nat)), (26, .int .i64 (i : Nat)), (27, .bool (decide (i < n1)))] a' → Q .normal a' w) : ∀ ac, Frm 168 [(3, .pointer (some ⟨wo.heap.size, 0, none⟩)), (4, .pointer (some ⟨(wo.heap.size + 1), 0, none⟩)), (5, .pointer (some ⟨(wo.heap.size + 1 + 1), 0, none⟩)), (7, .func (Fn.func 82) #[] #[.pointer (some ⟨(wo.heap.size + 1 + 1), 0, none⟩), .pointer (some ⟨wo.heap.size, 0, none⟩)]), (8, v), (24, .slice A n1 c1), (25, .int .i64 (n1 : Nat)), (26, .int .i64 (i : Nat))] ac → Code.wp Tryd.prog c_vl_r8 Q ac w := by
  refine frm_open ?_
  refine frame_vl ?_
  intros
  rename_i hq
  obtain ⟨-, -, e0q, e1q, e2q, e3q, e4q, e5q, e6q, e7q, -⟩ := hq
  obtain rfl := sI e0q
  obtain rfl := sI e1q
  obtain rfl := sI e2q
  obtain rfl := sI e3q
  obtain rfl := sI e4q
  obtain rfl := sI e5q
  obtain rfl := sI e6q
  obtain rfl := sI e7q
  conv => arg 2; whnf
  by_cases h : i < n1
  · have t1 : decide ((i : Int) < (n1 : Int)) = true := by first | exact decide_eq_true (by omega) | exact beq_iff_eq.2 (by omega) | exact bne_iff_ne.2 (by omega)
    have t2 : (decide (i < n1)) = true := decide_eq_true h
    rw [t2] at hN
    clear h
    have HN := Lib.hid hN
    clear hN
    go_wp2_with fail
    exact HN.out _ (id ⟨rfl, rfl, rfl, rfl, rfl, rfl, rfl, rfl, rfl, rfl, rfl, trivial⟩)
  · have t1 : decide ((i : Int) < (n1 : Int)) = false := by first | exact decide_eq_false (by omega) | exact beq_eq_false_iff_ne.2 (by omega) | exact bne_eq_false_iff_eq.2 (by omega)
    have t2 : (decide (i < n1)) = false := decide_eq_false h
    rw [t2] at hN
    clear h
    have HN := Lib.hid hN
    clear hN
    go_wp2_with fail
    exact HN.out _ (id ⟨rfl, rfl, rfl, rfl, rfl, rfl, rfl, rfl, rfl, rfl, rfl, trivial⟩)
noncomputable def c_vl_r9 : Code := sub [1, 1, 0, 1, 0, 1, 1, 1, 0, 1, 0, 1, 0, 0, 1, 1, 0, 0, 0] (Tryd.f48.body.getD .skip)
set_option maxRecDepth 1000000 in
set_option maxHeartbeats 16000000 in
theorem vl_r9_wp {Q : Exit → Act → World → Prop} {b o : Nat} {s : ByteArray} {v : Value} {n1 c1 i : Nat} {wo w : World} (hi : i < n1) (hc : w.cell? ⟨b, o + i, none⟩ = some (.string s)) (hbl : b < w.heap.size) (hN : ∀ a', Frm 168 [(3, .pointer (some ⟨wo.heap.size, 0, none⟩)), (4, .pointer (some ⟨(wo.heap.size + 1), 0, none⟩)), (5, .pointer (some ⟨(wo.heap.size + 1 + 1), 0, none⟩)), (7, .func (Fn.func 82) #[] #[.pointer (some ⟨(wo.heap.size + 1 + 1), 0, none⟩), .pointer (some ⟨wo.heap.size, 0, none⟩)]), (8, v), (24, .slice (some ⟨b, o, none⟩) n1 c1), (25, .int .i64 (n1 : Nat)), (26, .int .i64 (i : Nat)), (10, .string s)] a' → Q .normal a' w) : ∀ ac, Frm 168 [(3, .pointer (some ⟨wo.heap.size, 0, none⟩)), (4, .pointer (some ⟨(wo.heap.size + 1), 0, none⟩)), (5, .pointer (some ⟨(wo.heap.size + 1 + 1), 0, none⟩)), (7, .func (Fn.func 82) #[] #[.pointer (some ⟨(wo.heap.size + 1 + 1), 0, none⟩), .pointer (some ⟨wo.heap.size, 0, none⟩)]), (8, v), (24, .slice (some ⟨b, o, none⟩) n1 c1), (25, .int .i64 (n1 : Nat)), (26, .int .i64 (i : Nat))] ac → Code.wp Tryd.prog c_vl_r9 Q ac w := by
  refine frm_open ?_
  refine frame_vl ?_
  intros
  rename_i hq
  obtain ⟨-, -, e0q, e1q, e2q, e3q, e4q, e5q, e6q, e7q, -⟩ := hq
  obtain rfl := sI e0q
  obtain rfl := sI e1q
  obtain rfl := sI e2q
  obtain rfl := sI e3q
  obtain rfl := sI e4q
  obtain rfl := sI e5q
  obtain rfl := sI e6q
  obtain rfl := sI e7q
  conv => arg 2; whnf
  have q0 : (0 : Int) ≤ (i : Int) := by omega
  have q1 : (i : Int) < (n1 : Int) := by omega
  have HN := Lib.hid hN
  clear hN
  go_wp2_with fail
  exact HN.out _ (id ⟨rfl, rfl, rfl, rfl, rfl, rfl, rfl, rfl, rfl, rfl, rfl, trivial⟩)
theorem infoInt : (Tryd.prog.info? 3).map (fun i => (i.zero, i.size, i.bytes)) = some (some (.int .i64 0), 1, 8) := by kernel_rfl
noncomputable def c_vl_r10 : Code := sub [1, 1, 0, 1, 0, 1, 1, 1, 0, 1, 0, 1, 0, 0, 1, 1, 0, 0, 1] (Tryd.f48.body.getD .skip)
set_option maxRecDepth 1000000 in
set_option maxHeartbeats 16000000 in
theorem vl_r10_wp {Q : Exit → Act → World → Prop} {base n9 c9 : Nat} {A9 : Option Addr} {xs : List Value} {s : ByteArray} {z : Int} {A : Option Addr} {n1 c1 i : Nat} {wo w : World} (hl : n9 ≤ 1000000) (hc : Calls Tryd.prog 82 #[.string s, .pointer (some ⟨(wo.heap.size + 1 + 1), 0, none⟩), .pointer (some ⟨wo.heap.size, 0, none⟩)] w fun e w' => e = .returned (.int .i64 z) ∧ Below base w w' ∧ w'.ownsRow base 3 1 (.slice A9 n9 c9) n9 xs ∧ base ≤ w'.heap.size) (hN : ∀ v' a' w', Frm 168 [(3, .pointer (some ⟨wo.heap.size, 0, none⟩)), (4, .pointer (some ⟨(wo.heap.size + 1), 0, none⟩)), (5, .pointer (some ⟨(wo.heap.size + 1 + 1), 0, none⟩)), (7, .func (Fn.func 82) #[] #[.pointer (some ⟨(wo.heap.size + 1 + 1), 0, none⟩), .pointer (some ⟨wo.heap.size, 0, none⟩)]), (8, v'), (24, .slice A n1 c1), (25, .int .i64 (n1 : Nat)), (26, .int .i64 (i : Nat))] a' → w'.ownsRow base 3 1 v' (n9 + 1) (xs ++ [.int .i64 z]) → Below base w w' → Q .normal a' w') : ∀ ac, Frm 168 [(3, .pointer (some ⟨wo.heap.size, 0, none⟩)), (4, .pointer (some ⟨(wo.heap.size + 1), 0, none⟩)), (5, .pointer (some ⟨(wo.heap.size + 1 + 1), 0, none⟩)), (7, .func (Fn.func 82) #[] #[.pointer (some ⟨(wo.heap.size + 1 + 1), 0, none⟩), .pointer (some ⟨wo.heap.size, 0, none⟩)]), (8, (.slice A9 n9 c9)), (24, .slice A n1 c1), (25, .int .i64 (n1 : Nat)), (26, .int .i64 (i : Nat)), (10, .string s)] ac → Code.wp Tryd.prog c_vl_r10 Q ac w := by
  refine frm_open ?_
  refine frame_vl ?_
  intros
  rename_i hq
  obtain ⟨-, -, e0q, e1q, e2q, e3q, e4q, e5q, e6q, e7q, e8q, -⟩ := hq
  obtain rfl := sI e0q
  obtain rfl := sI e1q
  obtain rfl := sI e2q
  obtain rfl := sI e3q
  obtain rfl := sI e4q
  obtain rfl := sI e5q
  obtain rfl := sI e6q
  obtain rfl := sI e7q
  obtain rfl := sI e8q
  conv => arg 2; whnf
  obtain ⟨ti, hti, ht0, ht1, ht2⟩ := info_parts infoInt
  have HN := Lib.hid hN
  have HC := Lib.hid hc
  clear hN hc
  go_wp2_with fail
  (with_reducible refine HC.out.mono ?_)
  rintro e w1 ⟨rfl, hb1, hrow, hbw⟩
  have HB1 := Lib.hid hb1
  have HROW := Lib.hid hrow
  clear hb1 hrow
  go_wp2_with (at_builtin; refine wpList_append_lies (w1.alloc (.cells #[.int .i64 z] 3)) ?h1 (.tmp 30) (.tmp 34) 44 ?h2 base 3 ti (.int .i64 0) 1 8 ?h3 hti ht0 ht1 ht2 ?h4 ?h5 (.slice A9 n9 c9) n9 xs ?h6 ?h7 ⟨w1.heap.size, 0, none⟩ 1 1 [.int .i64 z] ?h8 ?h9 ?h10 ?h11 ?h12 ?h13 ?h14 ?h15 (w1.heap.size + 1) ?h16 ?_)
  try (case h1 => rfl)
  try (case h2 => rfl)
  try (case h3 => exact Tryd.underlying44)
  try (case h4 => rfl)
  try (case h5 => omega)
  try (case h6 => rfl)
  try (case h7 => exact HROW.out.alloc _)
  try (case h8 => rfl)
  try (case h9 => rfl)
  try (case h10 => exact World.news_of_block (cs := #[.int .i64 z]) (t := 3) (fr := (0, 0)) (heap_alloc_new w1 _))
  try (case h11 => simp [Value.oneCell'])
  try (case h12 => omega)
  try (case h13 => first | (simp [maxLen]; omega) | (unfold maxLen; omega))
  try (case h14 => omega)
  try (case h15 => first | omega | (simp; omega))
  try (case h16 => first | rfl | simp)
  intro gg cap w6 hown3 hgrow hat hlt
  have hbg : Below base w1 w6 := ((Below.refl base w1).alloc hbw _).trans (below_of_grown9 hgrow (own_ge9 HROW.out) (by simp; omega))
  have HBG := Lib.hid hbg
  have HOWN := Lib.hid hown3
  clear hown3 hgrow hat hbg hlt
  go_wp2_with fail
  exact HN.out _ _ _ (id ⟨rfl, rfl, rfl, rfl, rfl, rfl, rfl, rfl, rfl, rfl, trivial⟩) HOWN.out (HB1.out.trans HBG.out)
noncomputable def c_vl_r11 : Code := sub [1, 1, 0, 1, 0, 1, 1, 1, 0, 1, 0, 1, 0, 0, 1, 1, 1] (Tryd.f48.body.getD .skip)
set_option maxRecDepth 1000000 in
set_option maxHeartbeats 16000000 in
theorem vl_r11_wp {Q : Exit → Act → World → Prop} {v : Value} {A : Option Addr} {n1 c1 i : Nat} {wo w : World} (hi : i < n1) (hlim : n1 ≤ maxLen) (hN : ∀ a', Frm 168 [(3, .pointer (some ⟨wo.heap.size, 0, none⟩)), (4, .pointer (some ⟨(wo.heap.size + 1), 0, none⟩)), (5, .pointer (some ⟨(wo.heap.size + 1 + 1), 0, none⟩)), (7, .func (Fn.func 82) #[] #[.pointer (some ⟨(wo.heap.size + 1 + 1), 0, none⟩), .pointer (some ⟨wo.heap.size, 0, none⟩)]), (8, v), (24, .slice A n1 c1), (25, .int .i64 (n1 : Nat)), (26, .int .i64 (i + 1 : Nat))] a' → Q .normal a' w) : ∀ ac, Frm 168 [(3, .pointer (some ⟨wo.heap.size, 0, none⟩)), (4, .pointer (some ⟨(wo.heap.size + 1), 0, none⟩)), (5, .pointer (some ⟨(wo.heap.size + 1 + 1), 0, none⟩)), (7, .func (Fn.func 82) #[] #[.pointer (some ⟨(wo.heap.size + 1 + 1), 0, none⟩), .pointer (some ⟨wo.heap.size, 0, none⟩)]), (8, v), (24, .slice A n1 c1), (25, .int .i64 (n1 : Nat)), (26, .int .i64 (i : Nat))] ac → Code.wp Tryd.prog c_vl_r11 Q ac w := by
  refine frm_open ?_
  refine frame_vl ?_
  intros
  rename_i hq
  obtain ⟨-, -, e0q, e1q, e2q, e3q, e4q, e5q, e6q, e7q, -⟩ := hq
  obtain rfl := sI e0q
  obtain rfl := sI e1q
  obtain rfl := sI e2q
  obtain rfl := sI e3q
  obtain rfl := sI e4q
  obtain rfl := sI e5q
  obtain rfl := sI e6q
  obtain rfl := sI e7q
  conv => arg 2; whnf
  have hi4 : (i : Int) ≤ 9223372036854775806 := by unfold maxLen at hlim; omega
  have HN := Lib.hid hN
  clear hN
  go_wp2_with fail
  exact HN.out _ (id ⟨rfl, rfl, rfl, rfl, rfl, rfl, rfl, rfl, rfl, rfl, trivial⟩)
noncomputable def c_vl_r12 : Code := sub [1, 1, 0, 1, 0, 1, 1, 1, 0, 1, 1, 0] (Tryd.f48.body.getD .skip)
set_option maxRecDepth 1000000 in
set_option maxHeartbeats 16000000 in
theorem vl_r12_wp {Q : Exit → Act → World → Prop} {bb : Bool} {X : ByteArray → Int → Option Addr → Nat → Nat → Prop} {Dt : Option Addr} {mt et : Nat} {z : Int} {Am Bm : Option Addr} {nm1 cm nm2 dm : Nat} {wo w : World} {kd : Int} {nm : ByteArray} {A B : Option Addr} {n1 c1 n2 c2 : Nat} (ha : w.heap[wo.heap.size + 1]? = some (.cells #[.int .i64 kd, .string nm, .slice A n1 c1, .slice B n2 c2] 29 (0, 0))) (hgm : w.heap[wo.heap.size]? = some (.cells #[.int .i64 z, .slice Am nm1 cm, .slice Bm nm2 dm] 25 (0, 0))) (hc : Calls Tryd.prog 81 #[.agg #[.int .i64 z, .slice Am nm1 cm, .slice Bm nm2 dm], .string nm, .int .i64 (mt : Nat)] w fun e w' => (∃ p y D9 a9 b9, e = .returned (.tuple #[.agg #[.string p, .int .i64 y, .slice D9 a9 b9], .bool bb]) ∧ X p y D9 a9 b9) ∧ Below w.heap.size w w') (hN : ∀ rn ra D9 a9 b9 gx a' w', Frm 168 [(3, .pointer (some ⟨wo.heap.size, 0, none⟩)), (4, .pointer (some ⟨(wo.heap.size + 1), 0, none⟩)), (5, .pointer (some ⟨(wo.heap.size + 1 + 1), 0, none⟩)), (7, .func (Fn.func 82) #[] #[.pointer (some ⟨(wo.heap.size + 1 + 1), 0, none⟩), .pointer (some ⟨wo.heap.size, 0, none⟩)]), (8, (.slice Dt mt et)), (11, .pointer (some ⟨gx, 0, none⟩))] a' → w'.heap[gx]? = some (.cells #[.string rn, .int .i64 ra, .slice D9 a9 b9] 65 (0, 0)) → Below w.heap.size w w' → X rn ra D9 a9 b9 → Q .normal a' w') : ∀ ac, Frm 168 [(3, .pointer (some ⟨wo.heap.size, 0, none⟩)), (4, .pointer (some ⟨(wo.heap.size + 1), 0, none⟩)), (5, .pointer (some ⟨(wo.heap.size + 1 + 1), 0, none⟩)), (7, .func (Fn.func 82) #[] #[.pointer (some ⟨(wo.heap.size + 1 + 1), 0, none⟩), .pointer (some ⟨wo.heap.size, 0, none⟩)]), (8, (.slice Dt mt et))] ac → Code.wp Tryd.prog c_vl_r12 Q ac w := by
  refine frm_open ?_
  refine frame_vl ?_
  intros
  rename_i hq
  obtain ⟨-, -, e0q, e1q, e2q, e3q, e4q, -⟩ := hq
  obtain rfl := sI e0q
  obtain rfl := sI e1q
  obtain rfl := sI e2q
  obtain rfl := sI e3q
  obtain rfl := sI e4q
  conv => arg 2; whnf
  have a0 := cellv ha 0 rfl
  have a1 := cellv ha 1 rfl
  have a2 := cellv ha 2 rfl
  have a3 := cellv ha 3 rfl
  have al := lt_heap ha
  clear ha
  have m0 := cellv hgm 0 rfl
  have m1 := cellv hgm 1 rfl
  have m2 := cellv hgm 2 rfl
  have ml := lt_heap hgm
  clear hgm
  have HN := Lib.hid hN
  have HC := Lib.hid hc
  clear hN hc
  go_wp2_with fail
  (with_reducible refine HC.out.mono ?_)
  rintro e w1 ⟨⟨pr, yr, D9, a9, b9, rfl, hx⟩, hb1⟩
  have HB1 := Lib.hid hb1
  have HX := Lib.hid hx
  clear hb1 hx
  go_wp2_with fail
  exact HN.out _ _ _ _ _ _ _ _ (id ⟨rfl, rfl, rfl, rfl, rfl, rfl, rfl, rfl, trivial⟩) (heap_alloc_new _ _) (HB1.out.alloc HB1.out.size _) (HX.out)
noncomputable def c_vl_r13 : Code := sub [1, 1, 0, 1, 0, 1, 1, 1, 0, 1, 1, 1, 0] (Tryd.f48.body.getD .skip)
set_option maxRecDepth 1000000 in
set_option maxHeartbeats 16000000 in
theorem vl_r13_wp {Q : Exit → Act → World → Prop} {bb : Bool} {k gx : Nat} {Dt : Option Addr} {mt et : Nat} {rn : ByteArray} {ra : Int} {D9 : Option Addr} {a9 b9 : Nat} {wo w : World} (hx : w.heap[gx]? = some (.cells #[.string rn, .int .i64 ra, .slice D9 a9 b9] 65 (0, 0))) (hc : Calls Tryd.prog 83 #[.slice D9 a9 b9, .slice Dt mt et, .func (Fn.func 70) #[] #[]] w fun e w' => e = .returned (.tuple #[.int .i64 (k : Nat), .bool bb]) ∧ Below w.heap.size w w') (hN : ∀ a' w', Frm 168 [(14, .bool bb)] a' → Below w.heap.size w w' → Q .normal a' w') : ∀ ac, Frm 168 [(3, .pointer (some ⟨wo.heap.size, 0, none⟩)), (4, .pointer (some ⟨(wo.heap.size + 1), 0, none⟩)), (5, .pointer (some ⟨(wo.heap.size + 1 + 1), 0, none⟩)), (7, .func (Fn.func 82) #[] #[.pointer (some ⟨(wo.heap.size + 1 + 1), 0, none⟩), .pointer (some ⟨wo.heap.size, 0, none⟩)]), (8, (.slice Dt mt et)), (11, .pointer (some ⟨gx, 0, none⟩))] ac → Code.wp Tryd.prog c_vl_r13 Q ac w := by
  refine frm_open ?_
  refine frame_vl ?_
  intros
  rename_i hq
  obtain ⟨-, -, e0q, e1q, e2q, e3q, e4q, e5q, -⟩ := hq
  obtain rfl := sI e0q
  obtain rfl := sI e1q
  obtain rfl := sI e2q
  obtain rfl := sI e3q
  obtain rfl := sI e4q
  obtain rfl := sI e5q
  conv => arg 2; whnf
  have x0 := cellv hx 0 rfl
  have x1 := cellv hx 1 rfl
  have x2 := cellv hx 2 rfl
  have xl := lt_heap hx
  clear hx
  have HN := Lib.hid hN
  have HC := Lib.hid hc
  clear hN hc
  go_wp2_with fail
  (with_reducible refine HC.out.mono ?_)
  rintro e w1 ⟨rfl, hb1⟩
  have HB1 := Lib.hid hb1
  clear hb1
  go_wp2_with fail
  exact HN.out _ _ (id ⟨rfl, rfl, rfl, trivial⟩) HB1.out
noncomputable def c_vl_r14 : Code := sub [1, 1, 0, 1, 0, 1, 1, 1, 0, 1, 1, 1, 1, 0] (Tryd.f48.body.getD .skip)
set_option maxRecDepth 1000000 in
set_option maxHeartbeats 16000000 in
theorem vl_r14_wp {Q : Exit → Act → World → Prop} {bb : Bool} {w : World} (hN : ∀ a', Frm 168 [(6, .bool bb)] a' → Q .normal a' w) : ∀ ac, Frm 168 [(14, .bool bb)] ac → Code.wp Tryd.prog c_vl_r14 Q ac w := by
  refine frm_open ?_
  refine frame_vl ?_
  intros
  rename_i hq
  obtain ⟨-, -, e0q, -⟩ := hq
  obtain rfl := sI e0q
  conv => arg 2; whnf
  have HN := Lib.hid hN
  clear hN
  go_wp2_with fail
  exact HN.out _ (id ⟨rfl, rfl, rfl, trivial⟩)
noncomputable def c_vl_r16 : Code := sub [1, 1, 0, 1, 0, 1, 1, 1, 1, 1, 0, 0] (Tryd.f48.body.getD .skip)
set_option maxRecDepth 1000000 in
set_option maxHeartbeats 16000000 in
theorem vl_r16_wp {K : Act → World → Prop} {z1 z2 : Int} {s1 s2 : ByteArray} {b o : Nat} {wo w : World} {kd : Int} {nm : ByteArray} {B : Option Addr} {c1 n2 c2 : Nat} (ha : w.heap[wo.heap.size + 1]? = some (.cells #[.int .i64 kd, .string nm, .slice (some ⟨b, o, none⟩) 2 c1, .slice B n2 c2] 29 (0, 0))) (e0 : w.cell? ⟨b, o, none⟩ = some (.string s1)) (e1 : w.cell? ⟨b, o + 1, none⟩ = some (.string s2)) (hbl : b < w.heap.size) (hc1 : ∀ W : World, Below w.heap.size w W → Calls Tryd.prog 82 #[.string s1, .pointer (some ⟨(wo.heap.size + 1 + 1), 0, none⟩), .pointer (some ⟨wo.heap.size, 0, none⟩)] W fun e w' => e = .returned (.int .i64 z1) ∧ Below w.heap.size w w') (hc2 : ∀ W : World, Below w.heap.size w W → Calls Tryd.prog 82 #[.string s2, .pointer (some ⟨(wo.heap.size + 1 + 1), 0, none⟩), .pointer (some ⟨wo.heap.size, 0, none⟩)] W fun e w' => e = .returned (.int .i64 z2) ∧ Below w.heap.size w w') (hN : ∀ a' w', Frm 168 [(6, .bool (decide (z1 = z2)))] a' → Below w.heap.size w w' → K a' w') : ∀ ac, Frm 168 [(3, .pointer (some ⟨wo.heap.size, 0, none⟩)), (4, .pointer (some ⟨(wo.heap.size + 1), 0, none⟩)), (5, .pointer (some ⟨(wo.heap.size + 1 + 1), 0, none⟩)), (7, .func (Fn.func 82) #[] #[.pointer (some ⟨(wo.heap.size + 1 + 1), 0, none⟩), .pointer (some ⟨wo.heap.size, 0, none⟩)])] ac → Code.wp Tryd.prog c_vl_r16 (Exit.then K (fun _ _ _ => False)) ac w := by
  refine frm_open ?_
  refine frame_vl ?_
  intros
  rename_i hq
  obtain ⟨-, -, e0q, e1q, e2q, e3q, -⟩ := hq
  obtain rfl := sI e0q
  obtain rfl := sI e1q
  obtain rfl := sI e2q
  obtain rfl := sI e3q
  conv => arg 2; whnf
  have a0 := cellv ha 0 rfl
  have a1 := cellv ha 1 rfl
  have a2 := cellv ha 2 rfl
  have a3 := cellv ha 3 rfl
  have al := lt_heap ha
  clear ha
  by_cases hy : z1 = z2
  · have t1 : (z1 == z2) = true := beq_iff_eq.2 hy
    rw [decide_eq_true hy] at hN
    clear hy
    have HC1 := Lib.hid hc1
    have HC2 := Lib.hid hc2
    have HN := Lib.hid hN
    clear hc1 hc2 hN
    go_region_held3 (fun w' => w'.cell? ⟨wo.heap.size + 1, 2, none⟩ = some (.slice (some ⟨b, o, none⟩) 2 c1) ∧ w'.cell? ⟨b, o, none⟩ = some (.string s1) ∧ w'.cell? ⟨b, o + 1, none⟩ = some (.string s2))
      ((first | (go_keep; done) | (go_split_ands; (repeat' apply And.intro) <;> (refine (kc5 _ _ (by omega)).trans ?_; assumption))))
      (first
        | ((with_reducible refine (HC1.out _ ?hbel).mono ?_); (case hbel => first | exact Below.refl _ _ | exact (Below.refl _ _).drew | exact HB1.out | exact HB1.out.drew); rintro e w4 ⟨rfl, hw4⟩; have kc5 : ∀ k q, k < w.heap.size → w4.cell? ⟨k, q, none⟩ = _ := (fun k q h => hw4.cell (p := ⟨k, q, none⟩) h); have HB1 := Lib.hid hw4; clear hw4)
        | ((with_reducible refine (HC2.out _ ?hbel).mono ?_); (case hbel => first | exact Below.refl _ _ | exact (Below.refl _ _).drew | exact HB1.out | exact HB1.out.drew); rintro e w4 ⟨rfl, hw4⟩; have kc5 : ∀ k q, k < w.heap.size → w4.cell? ⟨k, q, none⟩ = _ := (fun k q h => hw4.cell (p := ⟨k, q, none⟩) h); have HB1 := Lib.hid hw4; clear hw4)
        | fail)
    all_goals go_wp2_with fail
    all_goals exact HN.out _ _ (id ⟨rfl, rfl, rfl, trivial⟩) HB1.out
  · have t1 : (z1 == z2) = false := beq_eq_false_iff_ne.2 hy
    rw [decide_eq_false hy] at hN
    clear hy
    have HC1 := Lib.hid hc1
    have HC2 := Lib.hid hc2
    have HN := Lib.hid hN
    clear hc1 hc2 hN
    go_region_held3 (fun w' => w'.cell? ⟨wo.heap.size + 1, 2, none⟩ = some (.slice (some ⟨b, o, none⟩) 2 c1) ∧ w'.cell? ⟨b, o, none⟩ = some (.string s1) ∧ w'.cell? ⟨b, o + 1, none⟩ = some (.string s2))
      ((first | (go_keep; done) | (go_split_ands; (repeat' apply And.intro) <;> (refine (kc5 _ _ (by omega)).trans ?_; assumption))))
      (first
        | ((with_reducible refine (HC1.out _ ?hbel).mono ?_); (case hbel => first | exact Below.refl _ _ | exact (Below.refl _ _).drew | exact HB1.out | exact HB1.out.drew); rintro e w4 ⟨rfl, hw4⟩; have kc5 : ∀ k q, k < w.heap.size → w4.cell? ⟨k, q, none⟩ = _ := (fun k q h => hw4.cell (p := ⟨k, q, none⟩) h); have HB1 := Lib.hid hw4; clear hw4)
        | ((with_reducible refine (HC2.out _ ?hbel).mono ?_); (case hbel => first | exact Below.refl _ _ | exact (Below.refl _ _).drew | exact HB1.out | exact HB1.out.drew); rintro e w4 ⟨rfl, hw4⟩; have kc5 : ∀ k q, k < w.heap.size → w4.cell? ⟨k, q, none⟩ = _ := (fun k q h => hw4.cell (p := ⟨k, q, none⟩) h); have HB1 := Lib.hid hw4; clear hw4)
        | fail)
    all_goals go_wp2_with fail
    all_goals exact HN.out _ _ (id ⟨rfl, rfl, rfl, trivial⟩) HB1.out

end Go.Proofs.YtflcbbikfdahhaaDoor
