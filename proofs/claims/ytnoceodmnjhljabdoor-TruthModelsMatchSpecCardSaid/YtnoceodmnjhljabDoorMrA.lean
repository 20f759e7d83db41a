/-
  ModelFault by parts: the constants.
-/
import Derived.Test.YtnoceodmnjhljabDoorCmp
import Derived.Test.YtnoceodmnjhljabDoorName
import Derived.Test.YtnoceodmnjhljabDoorTree
import Derived.Test.YtnoceodmnjhljabDoorMdAt
import Derived.Test.YtnoceodmnjhljabDoorParts
import Derived.Deep.DeepCutAuto
import Derived.BigQuiet
namespace Go.Proofs.YtnoceodmnjhljabDoor
open Go Go.RowKit
set_option linter.unusedSimpArgs false
set_option linter.unusedVariables false

set_option maxRecDepth 1000000 in
theorem frame_mr {P : Act → Prop} (h : ∀ x0 x1 x2 x3 x4 x5 x6 x7 x8 x9 x10 x11 x12 x13 x14 x15 x16 x17 x18 x19 x20 x21 x22 x23 x24 x25 x26 x27 x28 x29 x30 x31 x32 x33 x34 x35 x36 x37 x38 x39 x40 x41 x42 x43 x44 x45 x46 x47 x48 x49 x50 x51 x52 x53 x54 x55 x56 x57 x58 x59 x60 x61 x62 x63 x64 x65 x66 x67 x68 x69 x70 x71 x72 x73 x74 x75 x76 x77 x78 x79 x80 x81 x82 x83 x84 x85 x86 x87 x88 x89 x90 x91 x92 x93 x94 x95 x96 x97 x98 x99 x100 x101 x102 x103 x104 x105 x106 x107 x108 x109 x110 x111 x112 x113 x114 x115 x116 x117 x118 x119 x120 x121 x122 x123 x124 x125 x126 x127 x128 x129 x130 x131 x132 x133 x134 x135 x136 x137 x138 x139 x140 x141 x142 x143 x144 x145 x146 x147 x148 x149 x150 x151 x152 x153 x154 x155 x156 x157 x158 x159 x160 x161 x162 x163 x164 x165 x166 x167 x168 x169 x170 x171 x172 x173 x174 x175 x176 x177 x178 x179 x180 x181 x182 x183 x184 x185 x186 x187 : Value, P ⟨(x0 :: x1 :: x2 :: x3 :: x4 :: x5 :: x6 :: x7 :: x8 :: x9 :: x10 :: x11 :: x12 :: x13 :: x14 :: x15 :: x16 :: x17 :: x18 :: x19 :: x20 :: x21 :: x22 :: x23 :: x24 :: x25 :: x26 :: x27 :: x28 :: x29 :: x30 :: x31 :: x32 :: x33 :: x34 :: x35 :: x36 :: x37 :: x38 :: x39 :: x40 :: x41 :: x42 :: x43 :: x44 :: x45 :: x46 :: x47 :: x48 :: x49 :: x50 :: x51 :: x52 :: x53 :: x54 :: x55 :: x56 :: x57 :: x58 :: x59 :: x60 :: x61 :: x62 :: x63 :: x64 :: x65 :: x66 :: x67 :: x68 :: x69 :: x70 :: x71 :: x72 :: x73 :: x74 :: x75 :: x76 :: x77 :: x78 :: x79 :: x80 :: x81 :: x82 :: x83 :: x84 :: x85 :: x86 :: x87 :: x88 :: x89 :: x90 :: x91 :: x92 :: x93 :: x94 :: x95 :: x96 :: x97 :: x98 :: x99 :: x100 :: x101 :: x102 :: x103 :: x104 :: x105 :: x106 :: x107 :: x108 :: x109 :: x110 :: x111 :: x112 :: x113 :: x114 :: x115 :: x116 :: x117 :: x118 :: x119 :: x120 :: x121 :: x122 :: x123 :: x124 :: x125 :: x126 :: x127 :: x128 :: x129 :: x130 :: x131 :: x132 :: x133 :: x134 :: x135 :: x136 :: x137 :: x138 :: x139 :: x140 :: x141 :: x142 :: x143 :: x144 :: x145 :: x146 :: x147 :: x148 :: x149 :: x150 :: x151 :: x152 :: x153 :: x154 :: x155 :: x156 :: x157 :: x158 :: x159 :: x160 :: x161 :: x162 :: x163 :: x164 :: x165 :: x166 :: x167 :: x168 :: x169 :: x170 :: x171 :: x172 :: x173 :: x174 :: x175 :: x176 :: x177 :: x178 :: x179 :: x180 :: x181 :: x182 :: x183 :: x184 :: x185 :: x186 :: x187 :: []).toArray, []⟩) : ∀ a : Act, a.tmps.toList.length = 188 → a.defers = [] → P a := by
  rintro ⟨⟨l⟩, d⟩ hs hd
  simp only at hd
  subst hd
  revert l
  show ∀ l : List Value, l.length = 188 → P ⟨⟨l⟩, []⟩
  refine openS (n := 187) (fun x0 => ?_)
  refine openS (n := 186) (fun x1 => ?_)
  refine openS (n := 185) (fun x2 => ?_)
  refine openS (n := 184) (fun x3 => ?_)
  refine openS (n := 183) (fun x4 => ?_)
  refine openS (n := 182) (fun x5 => ?_)
  refine openS (n := 181) (fun x6 => ?_)
  refine openS (n := 180) (fun x7 => ?_)
  refine openS (n := 179) (fun x8 => ?_)
  refine openS (n := 178) (fun x9 => ?_)
  refine openS (n := 177) (fun x10 => ?_)
  refine openS (n := 176) (fun x11 => ?_)
  refine openS (n := 175) (fun x12 => ?_)
  refine openS (n := 174) (fun x13 => ?_)
  refine openS (n := 173) (fun x14 => ?_)
  refine openS (n := 172) (fun x15 => ?_)
  refine openS (n := 171) (fun x16 => ?_)
  refine openS (n := 170) (fun x17 => ?_)
  refine openS (n := 169) (fun x18 => ?_)
  refine openS (n := 168) (fun x19 => ?_)
  refine openS (n := 167) (fun x20 => ?_)
  refine openS (n := 166) (fun x21 => ?_)
  refine openS (n := 165) (fun x22 => ?_)
  refine openS (n := 164) (fun x23 => ?_)
  refine openS (n := 163) (fun x24 => ?_)
  refine openS (n := 162) (fun x25 => ?_)
  refine openS (n := 161) (fun x26 => ?_)
  refine openS (n := 160) (fun x27 => ?_)
  refine openS (n := 159) (fun x28 => ?_)
  refine openS (n := 158) (fun x29 => ?_)
  refine openS (n := 157) (fun x30 => ?_)
  refine openS (n := 156) (fun x31 => ?_)
  refine openS (n := 155) (fun x32 => ?_)
  refine openS (n := 154) (fun x33 => ?_)
  refine openS (n := 153) (fun x34 => ?_)
  refine openS (n := 152) (fun x35 => ?_)
  refine openS (n := 151) (fun x36 => ?_)
  refine openS (n := 150) (fun x37 => ?_)
  refine openS (n := 149) (fun x38 => ?_)
  refine openS (n := 148) (fun x39 => ?_)
  refine openS (n := 147) (fun x40 => ?_)
  refine openS (n := 146) (fun x41 => ?_)
  refine openS (n := 145) (fun x42 => ?_)
  refine openS (n := 144) (fun x43 => ?_)
  refine openS (n := 143) (fun x44 => ?_)
  refine openS (n := 142) (fun x45 => ?_)
  refine openS (n := 141) (fun x46 => ?_)
  refine openS (n := 140) (fun x47 => ?_)
  refine openS (n := 139) (fun x48 => ?_)
  refine openS (n := 138) (fun x49 => ?_)
  refine openS (n := 137) (fun x50 => ?_)
  refine openS (n := 136) (fun x51 => ?_)
  refine openS (n := 135) (fun x52 => ?_)
  refine openS (n := 134) (fun x53 => ?_)
  refine openS (n := 133) (fun x54 => ?_)
  refine openS (n := 132) (fun x55 => ?_)
  refine openS (n := 131) (fun x56 => ?_)
  refine openS (n := 130) (fun x57 => ?_)
  refine openS (n := 129) (fun x58 => ?_)
  refine openS (n := 128) (fun x59 => ?_)
  refine openS (n := 127) (fun x60 => ?_)
  refine openS (n := 126) (fun x61 => ?_)
  refine openS (n := 125) (fun x62 => ?_)
  refine openS (n := 124) (fun x63 => ?_)
  refine openS (n := 123) (fun x64 => ?_)
  refine openS (n := 122) (fun x65 => ?_)
  refine openS (n := 121) (fun x66 => ?_)
  refine openS (n := 120) (fun x67 => ?_)
  refine openS (n := 119) (fun x68 => ?_)
  refine openS (n := 118) (fun x69 => ?_)
  refine openS (n := 117) (fun x70 => ?_)
  refine openS (n := 116) (fun x71 => ?_)
  refine openS (n := 115) (fun x72 => ?_)
  refine openS (n := 114) (fun x73 => ?_)
  refine openS (n := 113) (fun x74 => ?_)
  refine openS (n := 112) (fun x75 => ?_)
  refine openS (n := 111) (fun x76 => ?_)
  refine openS (n := 110) (fun x77 => ?_)
  refine openS (n := 109) (fun x78 => ?_)
  refine openS (n := 108) (fun x79 => ?_)
  refine openS (n := 107) (fun x80 => ?_)
  refine openS (n := 106) (fun x81 => ?_)
  refine openS (n := 105) (fun x82 => ?_)
  refine openS (n := 104) (fun x83 => ?_)
  refine openS (n := 103) (fun x84 => ?_)
  refine openS (n := 102) (fun x85 => ?_)
  refine openS (n := 101) (fun x86 => ?_)
  refine openS (n := 100) (fun x87 => ?_)
  refine openS (n := 99) (fun x88 => ?_)
  refine openS (n := 98) (fun x89 => ?_)
  refine openS (n := 97) (fun x90 => ?_)
  refine openS (n := 96) (fun x91 => ?_)
  refine openS (n := 95) (fun x92 => ?_)
  refine openS (n := 94) (fun x93 => ?_)
  refine openS (n := 93) (fun x94 => ?_)
  refine openS (n := 92) (fun x95 => ?_)
  refine openS (n := 91) (fun x96 => ?_)
  refine openS (n := 90) (fun x97 => ?_)
  refine openS (n := 89) (fun x98 => ?_)
  refine openS (n := 88) (fun x99 => ?_)
  refine openS (n := 87) (fun x100 => ?_)
  refine openS (n := 86) (fun x101 => ?_)
  refine openS (n := 85) (fun x102 => ?_)
  refine openS (n := 84) (fun x103 => ?_)
  refine openS (n := 83) (fun x104 => ?_)
  refine openS (n := 82) (fun x105 => ?_)
  refine openS (n := 81) (fun x106 => ?_)
  refine openS (n := 80) (fun x107 => ?_)
  refine openS (n := 79) (fun x108 => ?_)
  refine openS (n := 78) (fun x109 => ?_)
  refine openS (n := 77) (fun x110 => ?_)
  refine openS (n := 76) (fun x111 => ?_)
  refine openS (n := 75) (fun x112 => ?_)
  refine openS (n := 74) (fun x113 => ?_)
  refine openS (n := 73) (fun x114 => ?_)
  refine openS (n := 72) (fun x115 => ?_)
  refine openS (n := 71) (fun x116 => ?_)
  refine openS (n := 70) (fun x117 => ?_)
  refine openS (n := 69) (fun x118 => ?_)
  refine openS (n := 68) (fun x119 => ?_)
  refine openS (n := 67) (fun x120 => ?_)
  refine openS (n := 66) (fun x121 => ?_)
  refine openS (n := 65) (fun x122 => ?_)
  refine openS (n := 64) (fun x123 => ?_)
  refine openS (n := 63) (fun x124 => ?_)
  refine openS (n := 62) (fun x125 => ?_)
  refine openS (n := 61) (fun x126 => ?_)
  refine openS (n := 60) (fun x127 => ?_)
  refine openS (n := 59) (fun x128 => ?_)
  refine openS (n := 58) (fun x129 => ?_)
  refine openS (n := 57) (fun x130 => ?_)
  refine openS (n := 56) (fun x131 => ?_)
  refine openS (n := 55) (fun x132 => ?_)
  refine openS (n := 54) (fun x133 => ?_)
  refine openS (n := 53) (fun x134 => ?_)
  refine openS (n := 52) (fun x135 => ?_)
  refine openS (n := 51) (fun x136 => ?_)
  refine openS (n := 50) (fun x137 => ?_)
  refine openS (n := 49) (fun x138 => ?_)
  refine openS (n := 48) (fun x139 => ?_)
  refine openS (n := 47) (fun x140 => ?_)
  refine openS (n := 46) (fun x141 => ?_)
  refine openS (n := 45) (fun x142 => ?_)
  refine openS (n := 44) (fun x143 => ?_)
  refine openS (n := 43) (fun x144 => ?_)
  refine openS (n := 42) (fun x145 => ?_)
  refine openS (n := 41) (fun x146 => ?_)
  refine openS (n := 40) (fun x147 => ?_)
  refine openS (n := 39) (fun x148 => ?_)
  refine openS (n := 38) (fun x149 => ?_)
  refine openS (n := 37) (fun x150 => ?_)
  refine openS (n := 36) (fun x151 => ?_)
  refine openS (n := 35) (fun x152 => ?_)
  refine openS (n := 34) (fun x153 => ?_)
  refine openS (n := 33) (fun x154 => ?_)
  refine openS (n := 32) (fun x155 => ?_)
  refine openS (n := 31) (fun x156 => ?_)
  refine openS (n := 30) (fun x157 => ?_)
  refine openS (n := 29) (fun x158 => ?_)
  refine openS (n := 28) (fun x159 => ?_)
  refine openS (n := 27) (fun x160 => ?_)
  refine openS (n := 26) (fun x161 => ?_)
  refine openS (n := 25) (fun x162 => ?_)
  refine openS (n := 24) (fun x163 => ?_)
  refine openS (n := 23) (fun x164 => ?_)
  refine openS (n := 22) (fun x165 => ?_)
  refine openS (n := 21) (fun x166 => ?_)
  refine openS (n := 20) (fun x167 => ?_)
  refine openS (n := 19) (fun x168 => ?_)
  refine openS (n := 18) (fun x169 => ?_)
  refine openS (n := 17) (fun x170 => ?_)
  refine openS (n := 16) (fun x171 => ?_)
  refine openS (n := 15) (fun x172 => ?_)
  refine openS (n := 14) (fun x173 => ?_)
  refine openS (n := 13) (fun x174 => ?_)
  refine openS (n := 12) (fun x175 => ?_)
  refine openS (n := 11) (fun x176 => ?_)
  refine openS (n := 10) (fun x177 => ?_)
  refine openS (n := 9) (fun x178 => ?_)
  refine openS (n := 8) (fun x179 => ?_)
  refine openS (n := 7) (fun x180 => ?_)
  refine openS (n := 6) (fun x181 => ?_)
  refine openS (n := 5) (fun x182 => ?_)
  refine openS (n := 4) (fun x183 => ?_)
  refine openS (n := 3) (fun x184 => ?_)
  refine openS (n := 2) (fun x185 => ?_)
  refine openS (n := 1) (fun x186 => ?_)
  refine openS (n := 0) (fun x187 => ?_)
  refine open0 ?_
  exact h x0 x1 x2 x3 x4 x5 x6 x7 x8 x9 x10 x11 x12 x13 x14 x15 x16 x17 x18 x19 x20 x21 x22 x23 x24 x25 x26 x27 x28 x29 x30 x31 x32 x33 x34 x35 x36 x37 x38 x39 x40 x41 x42 x43 x44 x45 x46 x47 x48 x49 x50 x51 x52 x53 x54 x55 x56 x57 x58 x59 x60 x61 x62 x63 x64 x65 x66 x67 x68 x69 x70 x71 x72 x73 x74 x75 x76 x77 x78 x79 x80 x81 x82 x83 x84 x85 x86 x87 x88 x89 x90 x91 x92 x93 x94 x95 x96 x97 x98 x99 x100 x101 x102 x103 x104 x105 x106 x107 x108 x109 x110 x111 x112 x113 x114 x115 x116 x117 x118 x119 x120 x121 x122 x123 x124 x125 x126 x127 x128 x129 x130 x131 x132 x133 x134 x135 x136 x137 x138 x139 x140 x141 x142 x143 x144 x145 x146 x147 x148 x149 x150 x151 x152 x153 x154 x155 x156 x157 x158 x159 x160 x161 x162 x163 x164 x165 x166 x167 x168 x169 x170 x171 x172 x173 x174 x175 x176 x177 x178 x179 x180 x181 x182 x183 x184 x185 x186 x187
noncomputable def c_mr_chead : Code := sub [1, 1, 1, 0, 1, 0, 0, 0] (Tryd.f8.body.getD .skip)
set_option maxRecDepth 1000000 in
theorem open_mr_chead {P : Act → Prop} {v0 v1 v2 v3 v4 : Value} (h : ∀ x0 x3 x4 x5 x6 x7 x8 x9 x10 x11 x12 x13 x14 x15 x16 x17 x18 x19 x20 x21 x22 x23 x24 x25 x26 x27 x28 x29 x30 x31 x32 x33 x34 x38 x39 x40 x41 x42 x43 x44 x45 x46 x47 x48 x49 x50 x51 x52 x53 x54 x55 x56 x57 x58 x59 x60 x61 x62 x63 x64 x65 x66 x67 x68 x69 x70 x71 x72 x73 x74 x75 x76 x77 x78 x79 x80 x81 x82 x83 x84 x85 x86 x87 x88 x89 x90 x91 x92 x93 x94 x95 x96 x97 x98 x99 x100 x101 x102 x103 x104 x105 x106 x107 x108 x109 x110 x111 x112 x113 x114 x115 x116 x117 x118 x119 x120 x121 x122 x123 x124 x125 x126 x127 x128 x129 x130 x131 x132 x133 x134 x135 x136 x137 x138 x139 x140 x141 x142 x143 x144 x145 x146 x147 x148 x149 x150 x151 x152 x153 x154 x155 x156 x157 x158 x159 x160 x161 x162 x163 x164 x165 x166 x167 x168 x169 x170 x171 x172 x173 x174 x175 x176 x177 x178 x179 x180 x181 x182 x183 x184 x185 x186 x187 : Value, P ⟨(x0 :: v0 :: v1 :: x3 :: x4 :: x5 :: x6 :: x7 :: x8 :: x9 :: x10 :: x11 :: x12 :: x13 :: x14 :: x15 :: x16 :: x17 :: x18 :: x19 :: x20 :: x21 :: x22 :: x23 :: x24 :: x25 :: x26 :: x27 :: x28 :: x29 :: x30 :: x31 :: x32 :: x33 :: x34 :: v2 :: v3 :: v4 :: x38 :: x39 :: x40 :: x41 :: x42 :: x43 :: x44 :: x45 :: x46 :: x47 :: x48 :: x49 :: x50 :: x51 :: x52 :: x53 :: x54 :: x55 :: x56 :: x57 :: x58 :: x59 :: x60 :: x61 :: x62 :: x63 :: x64 :: x65 :: x66 :: x67 :: x68 :: x69 :: x70 :: x71 :: x72 :: x73 :: x74 :: x75 :: x76 :: x77 :: x78 :: x79 :: x80 :: x81 :: x82 :: x83 :: x84 :: x85 :: x86 :: x87 :: x88 :: x89 :: x90 :: x91 :: x92 :: x93 :: x94 :: x95 :: x96 :: x97 :: x98 :: x99 :: x100 :: x101 :: x102 :: x103 :: x104 :: x105 :: x106 :: x107 :: x108 :: x109 :: x110 :: x111 :: x112 :: x113 :: x114 :: x115 :: x116 :: x117 :: x118 :: x119 :: x120 :: x121 :: x122 :: x123 :: x124 :: x125 :: x126 :: x127 :: x128 :: x129 :: x130 :: x131 :: x132 :: x133 :: x134 :: x135 :: x136 :: x137 :: x138 :: x139 :: x140 :: x141 :: x142 :: x143 :: x144 :: x145 :: x146 :: x147 :: x148 :: x149 :: x150 :: x151 :: x152 :: x153 :: x154 :: x155 :: x156 :: x157 :: x158 :: x159 :: x160 :: x161 :: x162 :: x163 :: x164 :: x165 :: x166 :: x167 :: x168 :: x169 :: x170 :: x171 :: x172 :: x173 :: x174 :: x175 :: x176 :: x177 :: x178 :: x179 :: x180 :: x181 :: x182 :: x183 :: x184 :: x185 :: x186 :: x187 :: []).toArray, []⟩) : ∀ a, Frm 188 [(1, v0), (2, v1), (35, v2), (36, v3), (37, v4)] a → P a := by
  rintro a ⟨h1, h2, e0, e1, e2, e3, e4, _⟩
  revert e0 e1 e2 e3 e4
  refine frame_mr (P := fun a => a.tmps.toList[1]? = some v0 → a.tmps.toList[2]? = some v1 → a.tmps.toList[35]? = some v2 → a.tmps.toList[36]? = some v3 → a.tmps.toList[37]? = some v4 → P a) ?_ a h1 h2
  intro x0 x1 x2 x3 x4 x5 x6 x7 x8 x9 x10 x11 x12 x13 x14 x15 x16 x17 x18 x19 x20 x21 x22 x23 x24 x25 x26 x27 x28 x29 x30 x31 x32 x33 x34 x35 x36 x37 x38 x39 x40 x41 x42 x43 x44 x45 x46 x47 x48 x49 x50 x51 x52 x53 x54 x55 x56 x57 x58 x59 x60 x61 x62 x63 x64 x65 x66 x67 x68 x69 x70 x71 x72 x73 x74 x75 x76 x77 x78 x79 x80 x81 x82 x83 x84 x85 x86 x87 x88 x89 x90 x91 x92 x93 x94 x95 x96 x97 x98 x99 x100 x101 x102 x103 x104 x105 x106 x107 x108 x109 x110 x111 x112 x113 x114 x115 x116 x117 x118 x119 x120 x121 x122 x123 x124 x125 x126 x127 x128 x129 x130 x131 x132 x133 x134 x135 x136 x137 x138 x139 x140 x141 x142 x143 x144 x145 x146 x147 x148 x149 x150 x151 x152 x153 x154 x155 x156 x157 x158 x159 x160 x161 x162 x163 x164 x165 x166 x167 x168 x169 x170 x171 x172 x173 x174 x175 x176 x177 x178 x179 x180 x181 x182 x183 x184 x185 x186 x187 e0 e1 e2 e3 e4
  obtain rfl : x1 = v0 := Option.some.inj e0
  obtain rfl : x2 = v1 := Option.some.inj e1
  obtain rfl : x35 = v2 := Option.some.inj e2
  obtain rfl : x36 = v3 := Option.some.inj e3
  obtain rfl : x37 = v4 := Option.some.inj e4
  exact h x0 x3 x4 x5 x6 x7 x8 x9 x10 x11 x12 x13 x14 x15 x16 x17 x18 x19 x20 x21 x22 x23 x24 x25 x26 x27 x28 x29 x30 x31 x32 x33 x34 x38 x39 x40 x41 x42 x43 x44 x45 x46 x47 x48 x49 x50 x51 x52 x53 x54 x55 x56 x57 x58 x59 x60 x61 x62 x63 x64 x65 x66 x67 x68 x69 x70 x71 x72 x73 x74 x75 x76 x77 x78 x79 x80 x81 x82 x83 x84 x85 x86 x87 x88 x89 x90 x91 x92 x93 x94 x95 x96 x97 x98 x99 x100 x101 x102 x103 x104 x105 x106 x107 x108 x109 x110 x111 x112 x113 x114 x115 x116 x117 x118 x119 x120 x121 x122 x123 x124 x125 x126 x127 x128 x129 x130 x131 x132 x133 x134 x135 x136 x137 x138 x139 x140 x141 x142 x143 x144 x145 x146 x147 x148 x149 x150 x151 x152 x153 x154 x155 x156 x157 x158 x159 x160 x161 x162 x163 x164 x165 x166 x167 x168 x169 x170 x171 x172 x173 x174 x175 x176 x177 x178 x179 x180 x181 x182 x183 x184 x185 x186 x187
set_option maxRecDepth 1000000 in
set_option maxHeartbeats 16000000 in
theorem mr_chead_wp {Q : Exit → Act → World → Prop} {w wr : World} {cl : List Con} {A : Option Addr} {c j : Nat} (hN : ∀ a', Frm 188 [(1, .pointer (some ⟨w.heap.size, 0, none⟩)), (2, .pointer (some ⟨w.heap.size + 1, 0, none⟩)), (35, .slice A cl.length c), (36, .int .i64 (cl.length : Nat)), (37, .int .i64 (j : Nat)), (38, .bool (decide (j < cl.length)))] a' → Q .normal a' wr) : ∀ ac, Frm 188 [(1, .pointer (some ⟨w.heap.size, 0, none⟩)), (2, .pointer (some ⟨w.heap.size + 1, 0, none⟩)), (35, .slice A cl.length c), (36, .int .i64 (cl.length : Nat)), (37, .int .i64 (j : Nat))] ac → Code.wp Tryd.prog c_mr_chead Q ac wr := by
  refine open_mr_chead (P := fun a => Code.wp Tryd.prog c_mr_chead Q a wr) ?_
  intro x0 x3 x4 x5 x6 x7 x8 x9 x10 x11 x12 x13 x14 x15 x16 x17 x18 x19 x20 x21 x22 x23 x24 x25 x26 x27 x28 x29 x30 x31 x32 x33 x34 x38 x39 x40 x41 x42 x43 x44 x45 x46 x47 x48 x49 x50 x51 x52 x53 x54 x55 x56 x57 x58 x59 x60 x61 x62 x63 x64 x65 x66 x67 x68 x69 x70 x71 x72 x73 x74 x75 x76 x77 x78 x79 x80 x81 x82 x83 x84 x85 x86 x87 x88 x89 x90 x91 x92 x93 x94 x95 x96 x97 x98 x99 x100 x101 x102 x103 x104 x105 x106 x107 x108 x109 x110 x111 x112 x113 x114 x115 x116 x117 x118 x119 x120 x121 x122 x123 x124 x125 x126 x127 x128 x129 x130 x131 x132 x133 x134 x135 x136 x137 x138 x139 x140 x141 x142 x143 x144 x145 x146 x147 x148 x149 x150 x151 x152 x153 x154 x155 x156 x157 x158 x159 x160 x161 x162 x163 x164 x165 x166 x167 x168 x169 x170 x171 x172 x173 x174 x175 x176 x177 x178 x179 x180 x181 x182 x183 x184 x185 x186 x187
  conv => arg 2; whnf
  have HN := Lib.hid hN
  clear hN
  by_cases hjl : j < cl.length
  · have q1 : (j : Int) < (cl.length : Int) := by omega
    rw [show decide (j < cl.length) = true from decide_eq_true hjl] at HN
    clear hjl
    go_wp2_with fail
    exact HN.out _ (id ⟨rfl, rfl, rfl, rfl, rfl, rfl, rfl, rfl, trivial⟩)
  · have q1 : ¬ (j : Int) < (cl.length : Int) := by omega
    rw [show decide (j < cl.length) = false from decide_eq_false hjl] at HN
    clear hjl
    go_wp2_with fail
    exact HN.out _ (id ⟨rfl, rfl, rfl, rfl, rfl, rfl, rfl, rfl, trivial⟩)
noncomputable def c_mr_cbox : Code := sub [1, 1, 1, 0, 1, 0, 0, 1, 1, 0, 0, 0] (Tryd.f8.body.getD .skip)
set_option maxRecDepth 1000000 in
theorem open_mr_cbox {P : Act → Prop} {v0 v1 v2 v3 v4 : Value} (h : ∀ x0 x3 x4 x5 x6 x7 x8 x9 x10 x11 x12 x13 x14 x15 x16 x17 x18 x19 x20 x21 x22 x23 x24 x25 x26 x27 x28 x29 x30 x31 x32 x33 x34 x38 x39 x40 x41 x42 x43 x44 x45 x46 x47 x48 x49 x50 x51 x52 x53 x54 x55 x56 x57 x58 x59 x60 x61 x62 x63 x64 x65 x66 x67 x68 x69 x70 x71 x72 x73 x74 x75 x76 x77 x78 x79 x80 x81 x82 x83 x84 x85 x86 x87 x88 x89 x90 x91 x92 x93 x94 x95 x96 x97 x98 x99 x100 x101 x102 x103 x104 x105 x106 x107 x108 x109 x110 x111 x112 x113 x114 x115 x116 x117 x118 x119 x120 x121 x122 x123 x124 x125 x126 x127 x128 x129 x130 x131 x132 x133 x134 x135 x136 x137 x138 x139 x140 x141 x142 x143 x144 x145 x146 x147 x148 x149 x150 x151 x152 x153 x154 x155 x156 x157 x158 x159 x160 x161 x162 x163 x164 x165 x166 x167 x168 x169 x170 x171 x172 x173 x174 x175 x176 x177 x178 x179 x180 x181 x182 x183 x184 x185 x186 x187 : Value, P ⟨(x0 :: v0 :: v1 :: x3 :: x4 :: x5 :: x6 :: x7 :: x8 :: x9 :: x10 :: x11 :: x12 :: x13 :: x14 :: x15 :: x16 :: x17 :: x18 :: x19 :: x20 :: x21 :: x22 :: x23 :: x24 :: x25 :: x26 :: x27 :: x28 :: x29 :: x30 :: x31 :: x32 :: x33 :: x34 :: v2 :: v3 :: v4 :: x38 :: x39 :: x40 :: x41 :: x42 :: x43 :: x44 :: x45 :: x46 :: x47 :: x48 :: x49 :: x50 :: x51 :: x52 :: x53 :: x54 :: x55 :: x56 :: x57 :: x58 :: x59 :: x60 :: x61 :: x62 :: x63 :: x64 :: x65 :: x66 :: x67 :: x68 :: x69 :: x70 :: x71 :: x72 :: x73 :: x74 :: x75 :: x76 :: x77 :: x78 :: x79 :: x80 :: x81 :: x82 :: x83 :: x84 :: x85 :: x86 :: x87 :: x88 :: x89 :: x90 :: x91 :: x92 :: x93 :: x94 :: x95 :: x96 :: x97 :: x98 :: x99 :: x100 :: x101 :: x102 :: x103 :: x104 :: x105 :: x106 :: x107 :: x108 :: x109 :: x110 :: x111 :: x112 :: x113 :: x114 :: x115 :: x116 :: x117 :: x118 :: x119 :: x120 :: x121 :: x122 :: x123 :: x124 :: x125 :: x126 :: x127 :: x128 :: x129 :: x130 :: x131 :: x132 :: x133 :: x134 :: x135 :: x136 :: x137 :: x138 :: x139 :: x140 :: x141 :: x142 :: x143 :: x144 :: x145 :: x146 :: x147 :: x148 :: x149 :: x150 :: x151 :: x152 :: x153 :: x154 :: x155 :: x156 :: x157 :: x158 :: x159 :: x160 :: x161 :: x162 :: x163 :: x164 :: x165 :: x166 :: x167 :: x168 :: x169 :: x170 :: x171 :: x172 :: x173 :: x174 :: x175 :: x176 :: x177 :: x178 :: x179 :: x180 :: x181 :: x182 :: x183 :: x184 :: x185 :: x186 :: x187 :: []).toArray, []⟩) : ∀ a, Frm 188 [(1, v0), (2, v1), (35, v2), (36, v3), (37, v4)] a → P a := by
  rintro a ⟨h1, h2, e0, e1, e2, e3, e4, _⟩
  revert e0 e1 e2 e3 e4
  refine frame_mr (P := fun a => a.tmps.toList[1]? = some v0 → a.tmps.toList[2]? = some v1 → a.tmps.toList[35]? = some v2 → a.tmps.toList[36]? = some v3 → a.tmps.toList[37]? = some v4 → P a) ?_ a h1 h2
  intro x0 x1 x2 x3 x4 x5 x6 x7 x8 x9 x10 x11 x12 x13 x14 x15 x16 x17 x18 x19 x20 x21 x22 x23 x24 x25 x26 x27 x28 x29 x30 x31 x32 x33 x34 x35 x36 x37 x38 x39 x40 x41 x42 x43 x44 x45 x46 x47 x48 x49 x50 x51 x52 x53 x54 x55 x56 x57 x58 x59 x60 x61 x62 x63 x64 x65 x66 x67 x68 x69 x70 x71 x72 x73 x74 x75 x76 x77 x78 x79 x80 x81 x82 x83 x84 x85 x86 x87 x88 x89 x90 x91 x92 x93 x94 x95 x96 x97 x98 x99 x100 x101 x102 x103 x104 x105 x106 x107 x108 x109 x110 x111 x112 x113 x114 x115 x116 x117 x118 x119 x120 x121 x122 x123 x124 x125 x126 x127 x128 x129 x130 x131 x132 x133 x134 x135 x136 x137 x138 x139 x140 x141 x142 x143 x144 x145 x146 x147 x148 x149 x150 x151 x152 x153 x154 x155 x156 x157 x158 x159 x160 x161 x162 x163 x164 x165 x166 x167 x168 x169 x170 x171 x172 x173 x174 x175 x176 x177 x178 x179 x180 x181 x182 x183 x184 x185 x186 x187 e0 e1 e2 e3 e4
  obtain rfl : x1 = v0 := Option.some.inj e0
  obtain rfl : x2 = v1 := Option.some.inj e1
  obtain rfl : x35 = v2 := Option.some.inj e2
  obtain rfl : x36 = v3 := Option.some.inj e3
  obtain rfl : x37 = v4 := Option.some.inj e4
  exact h x0 x3 x4 x5 x6 x7 x8 x9 x10 x11 x12 x13 x14 x15 x16 x17 x18 x19 x20 x21 x22 x23 x24 x25 x26 x27 x28 x29 x30 x31 x32 x33 x34 x38 x39 x40 x41 x42 x43 x44 x45 x46 x47 x48 x49 x50 x51 x52 x53 x54 x55 x56 x57 x58 x59 x60 x61 x62 x63 x64 x65 x66 x67 x68 x69 x70 x71 x72 x73 x74 x75 x76 x77 x78 x79 x80 x81 x82 x83 x84 x85 x86 x87 x88 x89 x90 x91 x92 x93 x94 x95 x96 x97 x98 x99 x100 x101 x102 x103 x104 x105 x106 x107 x108 x109 x110 x111 x112 x113 x114 x115 x116 x117 x118 x119 x120 x121 x122 x123 x124 x125 x126 x127 x128 x129 x130 x131 x132 x133 x134 x135 x136 x137 x138 x139 x140 x141 x142 x143 x144 x145 x146 x147 x148 x149 x150 x151 x152 x153 x154 x155 x156 x157 x158 x159 x160 x161 x162 x163 x164 x165 x166 x167 x168 x169 x170 x171 x172 x173 x174 x175 x176 x177 x178 x179 x180 x181 x182 x183 x184 x185 x186 x187
set_option maxRecDepth 1000000 in
set_option maxHeartbeats 16000000 in
theorem mr_cbox_wp {Q : Exit → Act → World → Prop} {w wr : World} {cl : List Con} {c j b o : Nat} {nm : ByteArray} {v : Int} (hj : j < cl.length) (hb : b < wr.heap.size) (e0 : wr.cell? ⟨b, o + j * 2, none⟩ = some (.string nm)) (e1 : wr.cell? ⟨b, o + j * 2 + 1, none⟩ = some (.int .i64 v)) (hN : ∀ a', Frm 188 [(1, .pointer (some ⟨w.heap.size, 0, none⟩)), (2, .pointer (some ⟨w.heap.size + 1, 0, none⟩)), (35, .slice (some ⟨b, o, none⟩) cl.length c), (36, .int .i64 (cl.length : Nat)), (37, .int .i64 (j : Nat)), (3, .int .i64 (j : Nat)), (4, .pointer (some ⟨wr.heap.size, 0, none⟩))] a' → Q .normal a' (wr.alloc (.cells #[.string nm, .int .i64 v] 44 (0, 0)))) : ∀ ac, Frm 188 [(1, .pointer (some ⟨w.heap.size, 0, none⟩)), (2, .pointer (some ⟨w.heap.size + 1, 0, none⟩)), (35, .slice (some ⟨b, o, none⟩) cl.length c), (36, .int .i64 (cl.length : Nat)), (37, .int .i64 (j : Nat))] ac → Code.wp Tryd.prog c_mr_cbox Q ac wr := by
  refine open_mr_cbox (P := fun a => Code.wp Tryd.prog c_mr_cbox Q a wr) ?_
  intro x0 x3 x4 x5 x6 x7 x8 x9 x10 x11 x12 x13 x14 x15 x16 x17 x18 x19 x20 x21 x22 x23 x24 x25 x26 x27 x28 x29 x30 x31 x32 x33 x34 x38 x39 x40 x41 x42 x43 x44 x45 x46 x47 x48 x49 x50 x51 x52 x53 x54 x55 x56 x57 x58 x59 x60 x61 x62 x63 x64 x65 x66 x67 x68 x69 x70 x71 x72 x73 x74 x75 x76 x77 x78 x79 x80 x81 x82 x83 x84 x85 x86 x87 x88 x89 x90 x91 x92 x93 x94 x95 x96 x97 x98 x99 x100 x101 x102 x103 x104 x105 x106 x107 x108 x109 x110 x111 x112 x113 x114 x115 x116 x117 x118 x119 x120 x121 x122 x123 x124 x125 x126 x127 x128 x129 x130 x131 x132 x133 x134 x135 x136 x137 x138 x139 x140 x141 x142 x143 x144 x145 x146 x147 x148 x149 x150 x151 x152 x153 x154 x155 x156 x157 x158 x159 x160 x161 x162 x163 x164 x165 x166 x167 x168 x169 x170 x171 x172 x173 x174 x175 x176 x177 x178 x179 x180 x181 x182 x183 x184 x185 x186 x187
  conv => arg 2; whnf
  have HN := Lib.hid hN
  clear hN
  have q0 : (0 : Int) ≤ (j : Int) := by omega
  have q1 : (j : Int) < (cl.length : Int) := by omega
  have hbl2 : b < wr.heap.size + 1 := by omega
  go_wp2_with fail
  exact HN.out _ (id ⟨rfl, rfl, rfl, rfl, rfl, rfl, rfl, rfl, rfl, trivial⟩)
noncomputable def c_mr_c0 : Code := sub [1, 1, 1, 0, 1, 0, 0, 1, 1, 0, 0, 1, 0] (Tryd.f8.body.getD .skip)
set_option maxRecDepth 1000000 in
theorem open_mr_c0 {P : Act → Prop} {v0 v1 v2 v3 v4 v5 v6 : Value} (h : ∀ x0 x5 x6 x7 x8 x9 x10 x11 x12 x13 x14 x15 x16 x17 x18 x19 x20 x21 x22 x23 x24 x25 x26 x27 x28 x29 x30 x31 x32 x33 x34 x38 x39 x40 x41 x42 x43 x44 x45 x46 x47 x48 x49 x50 x51 x52 x53 x54 x55 x56 x57 x58 x59 x60 x61 x62 x63 x64 x65 x66 x67 x68 x69 x70 x71 x72 x73 x74 x75 x76 x77 x78 x79 x80 x81 x82 x83 x84 x85 x86 x87 x88 x89 x90 x91 x92 x93 x94 x95 x96 x97 x98 x99 x100 x101 x102 x103 x104 x105 x106 x107 x108 x109 x110 x111 x112 x113 x114 x115 x116 x117 x118 x119 x120 x121 x122 x123 x124 x125 x126 x127 x128 x129 x130 x131 x132 x133 x134 x135 x136 x137 x138 x139 x140 x141 x142 x143 x144 x145 x146 x147 x148 x149 x150 x151 x152 x153 x154 x155 x156 x157 x158 x159 x160 x161 x162 x163 x164 x165 x166 x167 x168 x169 x170 x171 x172 x173 x174 x175 x176 x177 x178 x179 x180 x181 x182 x183 x184 x185 x186 x187 : Value, P ⟨(x0 :: v0 :: v1 :: v5 :: v6 :: x5 :: x6 :: x7 :: x8 :: x9 :: x10 :: x11 :: x12 :: x13 :: x14 :: x15 :: x16 :: x17 :: x18 :: x19 :: x20 :: x21 :: x22 :: x23 :: x24 :: x25 :: x26 :: x27 :: x28 :: x29 :: x30 :: x31 :: x32 :: x33 :: x34 :: v2 :: v3 :: v4 :: x38 :: x39 :: x40 :: x41 :: x42 :: x43 :: x44 :: x45 :: x46 :: x47 :: x48 :: x49 :: x50 :: x51 :: x52 :: x53 :: x54 :: x55 :: x56 :: x57 :: x58 :: x59 :: x60 :: x61 :: x62 :: x63 :: x64 :: x65 :: x66 :: x67 :: x68 :: x69 :: x70 :: x71 :: x72 :: x73 :: x74 :: x75 :: x76 :: x77 :: x78 :: x79 :: x80 :: x81 :: x82 :: x83 :: x84 :: x85 :: x86 :: x87 :: x88 :: x89 :: x90 :: x91 :: x92 :: x93 :: x94 :: x95 :: x96 :: x97 :: x98 :: x99 :: x100 :: x101 :: x102 :: x103 :: x104 :: x105 :: x106 :: x107 :: x108 :: x109 :: x110 :: x111 :: x112 :: x113 :: x114 :: x115 :: x116 :: x117 :: x118 :: x119 :: x120 :: x121 :: x122 :: x123 :: x124 :: x125 :: x126 :: x127 :: x128 :: x129 :: x130 :: x131 :: x132 :: x133 :: x134 :: x135 :: x136 :: x137 :: x138 :: x139 :: x140 :: x141 :: x142 :: x143 :: x144 :: x145 :: x146 :: x147 :: x148 :: x149 :: x150 :: x151 :: x152 :: x153 :: x154 :: x155 :: x156 :: x157 :: x158 :: x159 :: x160 :: x161 :: x162 :: x163 :: x164 :: x165 :: x166 :: x167 :: x168 :: x169 :: x170 :: x171 :: x172 :: x173 :: x174 :: x175 :: x176 :: x177 :: x178 :: x179 :: x180 :: x181 :: x182 :: x183 :: x184 :: x185 :: x186 :: x187 :: []).toArray, []⟩) : ∀ a, Frm 188 [(1, v0), (2, v1), (35, v2), (36, v3), (37, v4), (3, v5), (4, v6)] a → P a := by
  rintro a ⟨h1, h2, e0, e1, e2, e3, e4, e5, e6, _⟩
  revert e0 e1 e2 e3 e4 e5 e6
  refine frame_mr (P := fun a => a.tmps.toList[1]? = some v0 → a.tmps.toList[2]? = some v1 → a.tmps.toList[35]? = some v2 → a.tmps.toList[36]? = some v3 → a.tmps.toList[37]? = some v4 → a.tmps.toList[3]? = some v5 → a.tmps.toList[4]? = some v6 → P a) ?_ a h1 h2
  intro x0 x1 x2 x3 x4 x5 x6 x7 x8 x9 x10 x11 x12 x13 x14 x15 x16 x17 x18 x19 x20 x21 x22 x23 x24 x25 x26 x27 x28 x29 x30 x31 x32 x33 x34 x35 x36 x37 x38 x39 x40 x41 x42 x43 x44 x45 x46 x47 x48 x49 x50 x51 x52 x53 x54 x55 x56 x57 x58 x59 x60 x61 x62 x63 x64 x65 x66 x67 x68 x69 x70 x71 x72 x73 x74 x75 x76 x77 x78 x79 x80 x81 x82 x83 x84 x85 x86 x87 x88 x89 x90 x91 x92 x93 x94 x95 x96 x97 x98 x99 x100 x101 x102 x103 x104 x105 x106 x107 x108 x109 x110 x111 x112 x113 x114 x115 x116 x117 x118 x119 x120 x121 x122 x123 x124 x125 x126 x127 x128 x129 x130 x131 x132 x133 x134 x135 x136 x137 x138 x139 x140 x141 x142 x143 x144 x145 x146 x147 x148 x149 x150 x151 x152 x153 x154 x155 x156 x157 x158 x159 x160 x161 x162 x163 x164 x165 x166 x167 x168 x169 x170 x171 x172 x173 x174 x175 x176 x177 x178 x179 x180 x181 x182 x183 x184 x185 x186 x187 e0 e1 e2 e3 e4 e5 e6
  obtain rfl : x1 = v0 := Option.some.inj e0
  obtain rfl : x2 = v1 := Option.some.inj e1
  obtain rfl : x35 = v2 := Option.some.inj e2
  obtain rfl : x36 = v3 := Option.some.inj e3
  obtain rfl : x37 = v4 := Option.some.inj e4
  obtain rfl : x3 = v5 := Option.some.inj e5
  obtain rfl : x4 = v6 := Option.some.inj e6
  exact h x0 x5 x6 x7 x8 x9 x10 x11 x12 x13 x14 x15 x16 x17 x18 x19 x20 x21 x22 x23 x24 x25 x26 x27 x28 x29 x30 x31 x32 x33 x34 x38 x39 x40 x41 x42 x43 x44 x45 x46 x47 x48 x49 x50 x51 x52 x53 x54 x55 x56 x57 x58 x59 x60 x61 x62 x63 x64 x65 x66 x67 x68 x69 x70 x71 x72 x73 x74 x75 x76 x77 x78 x79 x80 x81 x82 x83 x84 x85 x86 x87 x88 x89 x90 x91 x92 x93 x94 x95 x96 x97 x98 x99 x100 x101 x102 x103 x104 x105 x106 x107 x108 x109 x110 x111 x112 x113 x114 x115 x116 x117 x118 x119 x120 x121 x122 x123 x124 x125 x126 x127 x128 x129 x130 x131 x132 x133 x134 x135 x136 x137 x138 x139 x140 x141 x142 x143 x144 x145 x146 x147 x148 x149 x150 x151 x152 x153 x154 x155 x156 x157 x158 x159 x160 x161 x162 x163 x164 x165 x166 x167 x168 x169 x170 x171 x172 x173 x174 x175 x176 x177 x178 x179 x180 x181 x182 x183 x184 x185 x186 x187
set_option maxRecDepth 1000000 in
set_option maxHeartbeats 16000000 in
theorem mr_c0_wp {Q : Exit → Act → World → Prop} {w wo : World} {cl : List Con} {c j b o E : Nat} (hN : ∀ a', Frm 188 [(1, .pointer (some ⟨w.heap.size, 0, none⟩)), (2, .pointer (some ⟨w.heap.size + 1, 0, none⟩)), (35, .slice (some ⟨b, o, none⟩) cl.length c), (36, .int .i64 (cl.length : Nat)), (37, .int .i64 (j : Nat)), (3, .int .i64 (j : Nat)), (4, .pointer (some ⟨E, 0, none⟩)), (5, .int .i64 0)] a' → Q .normal a' wo) : ∀ ac, Frm 188 [(1, .pointer (some ⟨w.heap.size, 0, none⟩)), (2, .pointer (some ⟨w.heap.size + 1, 0, none⟩)), (35, .slice (some ⟨b, o, none⟩) cl.length c), (36, .int .i64 (cl.length : Nat)), (37, .int .i64 (j : Nat)), (3, .int .i64 (j : Nat)), (4, .pointer (some ⟨E, 0, none⟩))] ac → Code.wp Tryd.prog c_mr_c0 Q ac wo := by
  refine open_mr_c0 (P := fun a => Code.wp Tryd.prog c_mr_c0 Q a wo) ?_
  intro x0 x5 x6 x7 x8 x9 x10 x11 x12 x13 x14 x15 x16 x17 x18 x19 x20 x21 x22 x23 x24 x25 x26 x27 x28 x29 x30 x31 x32 x33 x34 x38 x39 x40 x41 x42 x43 x44 x45 x46 x47 x48 x49 x50 x51 x52 x53 x54 x55 x56 x57 x58 x59 x60 x61 x62 x63 x64 x65 x66 x67 x68 x69 x70 x71 x72 x73 x74 x75 x76 x77 x78 x79 x80 x81 x82 x83 x84 x85 x86 x87 x88 x89 x90 x91 x92 x93 x94 x95 x96 x97 x98 x99 x100 x101 x102 x103 x104 x105 x106 x107 x108 x109 x110 x111 x112 x113 x114 x115 x116 x117 x118 x119 x120 x121 x122 x123 x124 x125 x126 x127 x128 x129 x130 x131 x132 x133 x134 x135 x136 x137 x138 x139 x140 x141 x142 x143 x144 x145 x146 x147 x148 x149 x150 x151 x152 x153 x154 x155 x156 x157 x158 x159 x160 x161 x162 x163 x164 x165 x166 x167 x168 x169 x170 x171 x172 x173 x174 x175 x176 x177 x178 x179 x180 x181 x182 x183 x184 x185 x186 x187
  conv => arg 2; whnf
  have HN := Lib.hid hN
  clear hN
  go_wp2_with fail
  exact HN.out _ (id ⟨rfl, rfl, rfl, rfl, rfl, rfl, rfl, rfl, rfl, rfl, trivial⟩)
noncomputable def c_mr_c9 : Code := sub [1, 1, 1, 0, 1, 0, 0, 1, 1, 0, 0, 1, 1, 0, 0] (Tryd.f8.body.getD .skip)
set_option maxRecDepth 1000000 in
theorem open_mr_c9 {P : Act → Prop} {v0 v1 v2 v3 v4 v5 v6 v7 : Value} (h : ∀ x0 x6 x7 x8 x9 x10 x11 x12 x13 x14 x15 x16 x17 x18 x19 x20 x21 x22 x23 x24 x25 x26 x27 x28 x29 x30 x31 x32 x33 x34 x38 x39 x40 x41 x42 x43 x44 x45 x46 x47 x48 x49 x50 x51 x52 x53 x54 x55 x56 x57 x58 x59 x60 x61 x62 x63 x64 x65 x66 x67 x68 x69 x70 x71 x72 x73 x74 x75 x76 x77 x78 x79 x80 x81 x82 x83 x84 x85 x86 x87 x88 x89 x90 x91 x92 x93 x94 x95 x96 x97 x98 x99 x100 x101 x102 x103 x104 x105 x106 x107 x108 x109 x110 x111 x112 x113 x114 x115 x116 x117 x118 x119 x120 x121 x122 x123 x124 x125 x126 x127 x128 x129 x130 x131 x132 x133 x134 x135 x136 x137 x138 x139 x140 x141 x142 x143 x144 x145 x146 x147 x148 x149 x150 x151 x152 x153 x154 x155 x156 x157 x158 x159 x160 x161 x162 x163 x164 x165 x166 x167 x168 x169 x170 x171 x172 x173 x174 x175 x176 x177 x178 x179 x180 x181 x182 x183 x184 x185 x186 x187 : Value, P ⟨(x0 :: v0 :: v1 :: v5 :: v6 :: v7 :: x6 :: x7 :: x8 :: x9 :: x10 :: x11 :: x12 :: x13 :: x14 :: x15 :: x16 :: x17 :: x18 :: x19 :: x20 :: x21 :: x22 :: x23 :: x24 :: x25 :: x26 :: x27 :: x28 :: x29 :: x30 :: x31 :: x32 :: x33 :: x34 :: v2 :: v3 :: v4 :: x38 :: x39 :: x40 :: x41 :: x42 :: x43 :: x44 :: x45 :: x46 :: x47 :: x48 :: x49 :: x50 :: x51 :: x52 :: x53 :: x54 :: x55 :: x56 :: x57 :: x58 :: x59 :: x60 :: x61 :: x62 :: x63 :: x64 :: x65 :: x66 :: x67 :: x68 :: x69 :: x70 :: x71 :: x72 :: x73 :: x74 :: x75 :: x76 :: x77 :: x78 :: x79 :: x80 :: x81 :: x82 :: x83 :: x84 :: x85 :: x86 :: x87 :: x88 :: x89 :: x90 :: x91 :: x92 :: x93 :: x94 :: x95 :: x96 :: x97 :: x98 :: x99 :: x100 :: x101 :: x102 :: x103 :: x104 :: x105 :: x106 :: x107 :: x108 :: x109 :: x110 :: x111 :: x112 :: x113 :: x114 :: x115 :: x116 :: x117 :: x118 :: x119 :: x120 :: x121 :: x122 :: x123 :: x124 :: x125 :: x126 :: x127 :: x128 :: x129 :: x130 :: x131 :: x132 :: x133 :: x134 :: x135 :: x136 :: x137 :: x138 :: x139 :: x140 :: x141 :: x142 :: x143 :: x144 :: x145 :: x146 :: x147 :: x148 :: x149 :: x150 :: x151 :: x152 :: x153 :: x154 :: x155 :: x156 :: x157 :: x158 :: x159 :: x160 :: x161 :: x162 :: x163 :: x164 :: x165 :: x166 :: x167 :: x168 :: x169 :: x170 :: x171 :: x172 :: x173 :: x174 :: x175 :: x176 :: x177 :: x178 :: x179 :: x180 :: x181 :: x182 :: x183 :: x184 :: x185 :: x186 :: x187 :: []).toArray, []⟩) : ∀ a, Frm 188 [(1, v0), (2, v1), (35, v2), (36, v3), (37, v4), (3, v5), (4, v6), (5, v7)] a → P a := by
  rintro a ⟨h1, h2, e0, e1, e2, e3, e4, e5, e6, e7, _⟩
  revert e0 e1 e2 e3 e4 e5 e6 e7
  refine frame_mr (P := fun a => a.tmps.toList[1]? = some v0 → a.tmps.toList[2]? = some v1 → a.tmps.toList[35]? = some v2 → a.tmps.toList[36]? = some v3 → a.tmps.toList[37]? = some v4 → a.tmps.toList[3]? = some v5 → a.tmps.toList[4]? = some v6 → a.tmps.toList[5]? = some v7 → P a) ?_ a h1 h2
  intro x0 x1 x2 x3 x4 x5 x6 x7 x8 x9 x10 x11 x12 x13 x14 x15 x16 x17 x18 x19 x20 x21 x22 x23 x24 x25 x26 x27 x28 x29 x30 x31 x32 x33 x34 x35 x36 x37 x38 x39 x40 x41 x42 x43 x44 x45 x46 x47 x48 x49 x50 x51 x52 x53 x54 x55 x56 x57 x58 x59 x60 x61 x62 x63 x64 x65 x66 x67 x68 x69 x70 x71 x72 x73 x74 x75 x76 x77 x78 x79 x80 x81 x82 x83 x84 x85 x86 x87 x88 x89 x90 x91 x92 x93 x94 x95 x96 x97 x98 x99 x100 x101 x102 x103 x104 x105 x106 x107 x108 x109 x110 x111 x112 x113 x114 x115 x116 x117 x118 x119 x120 x121 x122 x123 x124 x125 x126 x127 x128 x129 x130 x131 x132 x133 x134 x135 x136 x137 x138 x139 x140 x141 x142 x143 x144 x145 x146 x147 x148 x149 x150 x151 x152 x153 x154 x155 x156 x157 x158 x159 x160 x161 x162 x163 x164 x165 x166 x167 x168 x169 x170 x171 x172 x173 x174 x175 x176 x177 x178 x179 x180 x181 x182 x183 x184 x185 x186 x187 e0 e1 e2 e3 e4 e5 e6 e7
  obtain rfl : x1 = v0 := Option.some.inj e0
  obtain rfl : x2 = v1 := Option.some.inj e1
  obtain rfl : x35 = v2 := Option.some.inj e2
  obtain rfl : x36 = v3 := Option.some.inj e3
  obtain rfl : x37 = v4 := Option.some.inj e4
  obtain rfl : x3 = v5 := Option.some.inj e5
  obtain rfl : x4 = v6 := Option.some.inj e6
  obtain rfl : x5 = v7 := Option.some.inj e7
  exact h x0 x6 x7 x8 x9 x10 x11 x12 x13 x14 x15 x16 x17 x18 x19 x20 x21 x22 x23 x24 x25 x26 x27 x28 x29 x30 x31 x32 x33 x34 x38 x39 x40 x41 x42 x43 x44 x45 x46 x47 x48 x49 x50 x51 x52 x53 x54 x55 x56 x57 x58 x59 x60 x61 x62 x63 x64 x65 x66 x67 x68 x69 x70 x71 x72 x73 x74 x75 x76 x77 x78 x79 x80 x81 x82 x83 x84 x85 x86 x87 x88 x89 x90 x91 x92 x93 x94 x95 x96 x97 x98 x99 x100 x101 x102 x103 x104 x105 x106 x107 x108 x109 x110 x111 x112 x113 x114 x115 x116 x117 x118 x119 x120 x121 x122 x123 x124 x125 x126 x127 x128 x129 x130 x131 x132 x133 x134 x135 x136 x137 x138 x139 x140 x141 x142 x143 x144 x145 x146 x147 x148 x149 x150 x151 x152 x153 x154 x155 x156 x157 x158 x159 x160 x161 x162 x163 x164 x165 x166 x167 x168 x169 x170 x171 x172 x173 x174 x175 x176 x177 x178 x179 x180 x181 x182 x183 x184 x185 x186 x187
set_option maxRecDepth 1000000 in
set_option maxHeartbeats 16000000 in
theorem mr_c9_wp {Q : Exit → Act → World → Prop} {w : World} {cl : List Con} {c j b o E : Nat} {wo : World} {nm : ByteArray} {v : Int} (hn : nm.size ≤ maxLen) (hpc : wo.heap[E]? = some (.cells #[.string nm, .int .i64 v] 44 (0, 0))) (hN : ∀ a', Frm 188 [(1, .pointer (some ⟨w.heap.size, 0, none⟩)), (2, .pointer (some ⟨w.heap.size + 1, 0, none⟩)), (35, .slice (some ⟨b, o, none⟩) cl.length c), (36, .int .i64 (cl.length : Nat)), (37, .int .i64 (j : Nat)), (3, .int .i64 (j : Nat)), (4, .pointer (some ⟨E, 0, none⟩)), (5, .int .i64 0), (45, .bool (!okName nm))] a' → Q .normal a' wo) : ∀ ac, Frm 188 [(1, .pointer (some ⟨w.heap.size, 0, none⟩)), (2, .pointer (some ⟨w.heap.size + 1, 0, none⟩)), (35, .slice (some ⟨b, o, none⟩) cl.length c), (36, .int .i64 (cl.length : Nat)), (37, .int .i64 (j : Nat)), (3, .int .i64 (j : Nat)), (4, .pointer (some ⟨E, 0, none⟩)), (5, .int .i64 0)] ac → Code.wp Tryd.prog c_mr_c9 Q ac wo := by
  refine open_mr_c9 (P := fun a => Code.wp Tryd.prog c_mr_c9 Q a wo) ?_
  intro x0 x6 x7 x8 x9 x10 x11 x12 x13 x14 x15 x16 x17 x18 x19 x20 x21 x22 x23 x24 x25 x26 x27 x28 x29 x30 x31 x32 x33 x34 x38 x39 x40 x41 x42 x43 x44 x45 x46 x47 x48 x49 x50 x51 x52 x53 x54 x55 x56 x57 x58 x59 x60 x61 x62 x63 x64 x65 x66 x67 x68 x69 x70 x71 x72 x73 x74 x75 x76 x77 x78 x79 x80 x81 x82 x83 x84 x85 x86 x87 x88 x89 x90 x91 x92 x93 x94 x95 x96 x97 x98 x99 x100 x101 x102 x103 x104 x105 x106 x107 x108 x109 x110 x111 x112 x113 x114 x115 x116 x117 x118 x119 x120 x121 x122 x123 x124 x125 x126 x127 x128 x129 x130 x131 x132 x133 x134 x135 x136 x137 x138 x139 x140 x141 x142 x143 x144 x145 x146 x147 x148 x149 x150 x151 x152 x153 x154 x155 x156 x157 x158 x159 x160 x161 x162 x163 x164 x165 x166 x167 x168 x169 x170 x171 x172 x173 x174 x175 x176 x177 x178 x179 x180 x181 x182 x183 x184 x185 x186 x187
  conv => arg 2; whnf
  have hnm := fun W : World => refName_any nm W hn
  obtain ⟨ok, hok⟩ : ∃ ok, okName nm = ok := ⟨_, rfl⟩
  rw [hok] at hnm
  have HN := Lib.hid hN
  have HNM := Lib.hid hnm
  have HOK := Lib.hid hok
  clear hN hnm hok
  have pc := hpc
  clear hpc
  have pc_0 := cv0 pc
  have pc_1 := cv1 pc
  have pc_l := lt_heap pc
  have PC := Lib.hid pc
  clear pc
  go_wp2_with fail
  (with_reducible refine (HNM.out _).mono ?_)
  rintro e wz ⟨rfl, rfl⟩
  go_wp2_with fail
  rw [← HOK.out]
  exact HN.out _ (id ⟨rfl, rfl, rfl, rfl, rfl, rfl, rfl, rfl, rfl, rfl, rfl, trivial⟩)
noncomputable def c_mr_c10 : Code := sub [1, 1, 1, 0, 1, 0, 0, 1, 1, 0, 0, 1, 1, 0, 1, 0] (Tryd.f8.body.getD .skip)
set_option maxRecDepth 1000000 in
theorem open_mr_c10 {P : Act → Prop} {v0 v1 v2 v3 v4 v5 v6 v7 : Value} (h : ∀ x0 x6 x7 x8 x9 x10 x11 x12 x13 x14 x15 x16 x17 x18 x19 x20 x21 x22 x23 x24 x25 x26 x27 x28 x29 x30 x31 x32 x33 x34 x38 x39 x40 x41 x42 x43 x44 x45 x46 x47 x48 x49 x50 x51 x52 x53 x54 x55 x56 x57 x58 x59 x60 x61 x62 x63 x64 x65 x66 x67 x68 x69 x70 x71 x72 x73 x74 x75 x76 x77 x78 x79 x80 x81 x82 x83 x84 x85 x86 x87 x88 x89 x90 x91 x92 x93 x94 x95 x96 x97 x98 x99 x100 x101 x102 x103 x104 x105 x106 x107 x108 x109 x110 x111 x112 x113 x114 x115 x116 x117 x118 x119 x120 x121 x122 x123 x124 x125 x126 x127 x128 x129 x130 x131 x132 x133 x134 x135 x136 x137 x138 x139 x140 x141 x142 x143 x144 x145 x146 x147 x148 x149 x150 x151 x152 x153 x154 x155 x156 x157 x158 x159 x160 x161 x162 x163 x164 x165 x166 x167 x168 x169 x170 x171 x172 x173 x174 x175 x176 x177 x178 x179 x180 x181 x182 x183 x184 x185 x186 x187 : Value, P ⟨(x0 :: v0 :: v1 :: v5 :: v6 :: v7 :: x6 :: x7 :: x8 :: x9 :: x10 :: x11 :: x12 :: x13 :: x14 :: x15 :: x16 :: x17 :: x18 :: x19 :: x20 :: x21 :: x22 :: x23 :: x24 :: x25 :: x26 :: x27 :: x28 :: x29 :: x30 :: x31 :: x32 :: x33 :: x34 :: v2 :: v3 :: v4 :: x38 :: x39 :: x40 :: x41 :: x42 :: x43 :: x44 :: x45 :: x46 :: x47 :: x48 :: x49 :: x50 :: x51 :: x52 :: x53 :: x54 :: x55 :: x56 :: x57 :: x58 :: x59 :: x60 :: x61 :: x62 :: x63 :: x64 :: x65 :: x66 :: x67 :: x68 :: x69 :: x70 :: x71 :: x72 :: x73 :: x74 :: x75 :: x76 :: x77 :: x78 :: x79 :: x80 :: x81 :: x82 :: x83 :: x84 :: x85 :: x86 :: x87 :: x88 :: x89 :: x90 :: x91 :: x92 :: x93 :: x94 :: x95 :: x96 :: x97 :: x98 :: x99 :: x100 :: x101 :: x102 :: x103 :: x104 :: x105 :: x106 :: x107 :: x108 :: x109 :: x110 :: x111 :: x112 :: x113 :: x114 :: x115 :: x116 :: x117 :: x118 :: x119 :: x120 :: x121 :: x122 :: x123 :: x124 :: x125 :: x126 :: x127 :: x128 :: x129 :: x130 :: x131 :: x132 :: x133 :: x134 :: x135 :: x136 :: x137 :: x138 :: x139 :: x140 :: x141 :: x142 :: x143 :: x144 :: x145 :: x146 :: x147 :: x148 :: x149 :: x150 :: x151 :: x152 :: x153 :: x154 :: x155 :: x156 :: x157 :: x158 :: x159 :: x160 :: x161 :: x162 :: x163 :: x164 :: x165 :: x166 :: x167 :: x168 :: x169 :: x170 :: x171 :: x172 :: x173 :: x174 :: x175 :: x176 :: x177 :: x178 :: x179 :: x180 :: x181 :: x182 :: x183 :: x184 :: x185 :: x186 :: x187 :: []).toArray, []⟩) : ∀ a, Frm 188 [(1, v0), (2, v1), (35, v2), (36, v3), (37, v4), (3, v5), (4, v6), (5, v7)] a → P a := by
  rintro a ⟨h1, h2, e0, e1, e2, e3, e4, e5, e6, e7, _⟩
  revert e0 e1 e2 e3 e4 e5 e6 e7
  refine frame_mr (P := fun a => a.tmps.toList[1]? = some v0 → a.tmps.toList[2]? = some v1 → a.tmps.toList[35]? = some v2 → a.tmps.toList[36]? = some v3 → a.tmps.toList[37]? = some v4 → a.tmps.toList[3]? = some v5 → a.tmps.toList[4]? = some v6 → a.tmps.toList[5]? = some v7 → P a) ?_ a h1 h2
  intro x0 x1 x2 x3 x4 x5 x6 x7 x8 x9 x10 x11 x12 x13 x14 x15 x16 x17 x18 x19 x20 x21 x22 x23 x24 x25 x26 x27 x28 x29 x30 x31 x32 x33 x34 x35 x36 x37 x38 x39 x40 x41 x42 x43 x44 x45 x46 x47 x48 x49 x50 x51 x52 x53 x54 x55 x56 x57 x58 x59 x60 x61 x62 x63 x64 x65 x66 x67 x68 x69 x70 x71 x72 x73 x74 x75 x76 x77 x78 x79 x80 x81 x82 x83 x84 x85 x86 x87 x88 x89 x90 x91 x92 x93 x94 x95 x96 x97 x98 x99 x100 x101 x102 x103 x104 x105 x106 x107 x108 x109 x110 x111 x112 x113 x114 x115 x116 x117 x118 x119 x120 x121 x122 x123 x124 x125 x126 x127 x128 x129 x130 x131 x132 x133 x134 x135 x136 x137 x138 x139 x140 x141 x142 x143 x144 x145 x146 x147 x148 x149 x150 x151 x152 x153 x154 x155 x156 x157 x158 x159 x160 x161 x162 x163 x164 x165 x166 x167 x168 x169 x170 x171 x172 x173 x174 x175 x176 x177 x178 x179 x180 x181 x182 x183 x184 x185 x186 x187 e0 e1 e2 e3 e4 e5 e6 e7
  obtain rfl : x1 = v0 := Option.some.inj e0
  obtain rfl : x2 = v1 := Option.some.inj e1
  obtain rfl : x35 = v2 := Option.some.inj e2
  obtain rfl : x36 = v3 := Option.some.inj e3
  obtain rfl : x37 = v4 := Option.some.inj e4
  obtain rfl : x3 = v5 := Option.some.inj e5
  obtain rfl : x4 = v6 := Option.some.inj e6
  obtain rfl : x5 = v7 := Option.some.inj e7
  exact h x0 x6 x7 x8 x9 x10 x11 x12 x13 x14 x15 x16 x17 x18 x19 x20 x21 x22 x23 x24 x25 x26 x27 x28 x29 x30 x31 x32 x33 x34 x38 x39 x40 x41 x42 x43 x44 x45 x46 x47 x48 x49 x50 x51 x52 x53 x54 x55 x56 x57 x58 x59 x60 x61 x62 x63 x64 x65 x66 x67 x68 x69 x70 x71 x72 x73 x74 x75 x76 x77 x78 x79 x80 x81 x82 x83 x84 x85 x86 x87 x88 x89 x90 x91 x92 x93 x94 x95 x96 x97 x98 x99 x100 x101 x102 x103 x104 x105 x106 x107 x108 x109 x110 x111 x112 x113 x114 x115 x116 x117 x118 x119 x120 x121 x122 x123 x124 x125 x126 x127 x128 x129 x130 x131 x132 x133 x134 x135 x136 x137 x138 x139 x140 x141 x142 x143 x144 x145 x146 x147 x148 x149 x150 x151 x152 x153 x154 x155 x156 x157 x158 x159 x160 x161 x162 x163 x164 x165 x166 x167 x168 x169 x170 x171 x172 x173 x174 x175 x176 x177 x178 x179 x180 x181 x182 x183 x184 x185 x186 x187
set_option maxRecDepth 1000000 in
set_option maxHeartbeats 16000000 in
theorem mr_c10_wp {Q : Exit → Act → World → Prop} {w : World} {cl : List Con} {c j b o E : Nat} {wo : World} (hN : ∀ a', Frm 188 [(1, .pointer (some ⟨w.heap.size, 0, none⟩)), (2, .pointer (some ⟨w.heap.size + 1, 0, none⟩)), (35, .slice (some ⟨b, o, none⟩) cl.length c), (36, .int .i64 (cl.length : Nat)), (37, .int .i64 (j : Nat)), (3, .int .i64 (j : Nat)), (4, .pointer (some ⟨E, 0, none⟩)), (5, .int .i64 10)] a' → Q .normal a' wo) : ∀ ac, Frm 188 [(1, .pointer (some ⟨w.heap.size, 0, none⟩)), (2, .pointer (some ⟨w.heap.size + 1, 0, none⟩)), (35, .slice (some ⟨b, o, none⟩) cl.length c), (36, .int .i64 (cl.length : Nat)), (37, .int .i64 (j : Nat)), (3, .int .i64 (j : Nat)), (4, .pointer (some ⟨E, 0, none⟩)), (5, .int .i64 0)] ac → Code.wp Tryd.prog c_mr_c10 Q ac wo := by
  refine open_mr_c10 (P := fun a => Code.wp Tryd.prog c_mr_c10 Q a wo) ?_
  intro x0 x6 x7 x8 x9 x10 x11 x12 x13 x14 x15 x16 x17 x18 x19 x20 x21 x22 x23 x24 x25 x26 x27 x28 x29 x30 x31 x32 x33 x34 x38 x39 x40 x41 x42 x43 x44 x45 x46 x47 x48 x49 x50 x51 x52 x53 x54 x55 x56 x57 x58 x59 x60 x61 x62 x63 x64 x65 x66 x67 x68 x69 x70 x71 x72 x73 x74 x75 x76 x77 x78 x79 x80 x81 x82 x83 x84 x85 x86 x87 x88 x89 x90 x91 x92 x93 x94 x95 x96 x97 x98 x99 x100 x101 x102 x103 x104 x105 x106 x107 x108 x109 x110 x111 x112 x113 x114 x115 x116 x117 x118 x119 x120 x121 x122 x123 x124 x125 x126 x127 x128 x129 x130 x131 x132 x133 x134 x135 x136 x137 x138 x139 x140 x141 x142 x143 x144 x145 x146 x147 x148 x149 x150 x151 x152 x153 x154 x155 x156 x157 x158 x159 x160 x161 x162 x163 x164 x165 x166 x167 x168 x169 x170 x171 x172 x173 x174 x175 x176 x177 x178 x179 x180 x181 x182 x183 x184 x185 x186 x187
  conv => arg 2; whnf
  have HN := Lib.hid hN
  clear hN
  go_wp2_with fail
  exact HN.out _ (id ⟨rfl, rfl, rfl, rfl, rfl, rfl, rfl, rfl, rfl, rfl, trivial⟩)
noncomputable def c_mr_c12 : Code := sub [1, 1, 1, 0, 1, 0, 0, 1, 1, 0, 0, 1, 1, 0, 1, 1, 1, 0] (Tryd.f8.body.getD .skip)
set_option maxRecDepth 1000000 in
theorem open_mr_c12 {P : Act → Prop} {v0 v1 v2 v3 v4 v5 v6 v7 : Value} (h : ∀ x0 x6 x7 x8 x9 x10 x11 x12 x13 x14 x15 x16 x17 x18 x19 x20 x21 x22 x23 x24 x25 x26 x27 x28 x29 x30 x31 x32 x33 x34 x38 x39 x40 x41 x42 x43 x44 x45 x46 x47 x48 x49 x50 x51 x52 x53 x54 x55 x56 x57 x58 x59 x60 x61 x62 x63 x64 x65 x66 x67 x68 x69 x70 x71 x72 x73 x74 x75 x76 x77 x78 x79 x80 x81 x82 x83 x84 x85 x86 x87 x88 x89 x90 x91 x92 x93 x94 x95 x96 x97 x98 x99 x100 x101 x102 x103 x104 x105 x106 x107 x108 x109 x110 x111 x112 x113 x114 x115 x116 x117 x118 x119 x120 x121 x122 x123 x124 x125 x126 x127 x128 x129 x130 x131 x132 x133 x134 x135 x136 x137 x138 x139 x140 x141 x142 x143 x144 x145 x146 x147 x148 x149 x150 x151 x152 x153 x154 x155 x156 x157 x158 x159 x160 x161 x162 x163 x164 x165 x166 x167 x168 x169 x170 x171 x172 x173 x174 x175 x176 x177 x178 x179 x180 x181 x182 x183 x184 x185 x186 x187 : Value, P ⟨(x0 :: v0 :: v1 :: v5 :: v6 :: v7 :: x6 :: x7 :: x8 :: x9 :: x10 :: x11 :: x12 :: x13 :: x14 :: x15 :: x16 :: x17 :: x18 :: x19 :: x20 :: x21 :: x22 :: x23 :: x24 :: x25 :: x26 :: x27 :: x28 :: x29 :: x30 :: x31 :: x32 :: x33 :: x34 :: v2 :: v3 :: v4 :: x38 :: x39 :: x40 :: x41 :: x42 :: x43 :: x44 :: x45 :: x46 :: x47 :: x48 :: x49 :: x50 :: x51 :: x52 :: x53 :: x54 :: x55 :: x56 :: x57 :: x58 :: x59 :: x60 :: x61 :: x62 :: x63 :: x64 :: x65 :: x66 :: x67 :: x68 :: x69 :: x70 :: x71 :: x72 :: x73 :: x74 :: x75 :: x76 :: x77 :: x78 :: x79 :: x80 :: x81 :: x82 :: x83 :: x84 :: x85 :: x86 :: x87 :: x88 :: x89 :: x90 :: x91 :: x92 :: x93 :: x94 :: x95 :: x96 :: x97 :: x98 :: x99 :: x100 :: x101 :: x102 :: x103 :: x104 :: x105 :: x106 :: x107 :: x108 :: x109 :: x110 :: x111 :: x112 :: x113 :: x114 :: x115 :: x116 :: x117 :: x118 :: x119 :: x120 :: x121 :: x122 :: x123 :: x124 :: x125 :: x126 :: x127 :: x128 :: x129 :: x130 :: x131 :: x132 :: x133 :: x134 :: x135 :: x136 :: x137 :: x138 :: x139 :: x140 :: x141 :: x142 :: x143 :: x144 :: x145 :: x146 :: x147 :: x148 :: x149 :: x150 :: x151 :: x152 :: x153 :: x154 :: x155 :: x156 :: x157 :: x158 :: x159 :: x160 :: x161 :: x162 :: x163 :: x164 :: x165 :: x166 :: x167 :: x168 :: x169 :: x170 :: x171 :: x172 :: x173 :: x174 :: x175 :: x176 :: x177 :: x178 :: x179 :: x180 :: x181 :: x182 :: x183 :: x184 :: x185 :: x186 :: x187 :: []).toArray, []⟩) : ∀ a, Frm 188 [(1, v0), (2, v1), (35, v2), (36, v3), (37, v4), (3, v5), (4, v6), (5, v7)] a → P a := by
  rintro a ⟨h1, h2, e0, e1, e2, e3, e4, e5, e6, e7, _⟩
  revert e0 e1 e2 e3 e4 e5 e6 e7
  refine frame_mr (P := fun a => a.tmps.toList[1]? = some v0 → a.tmps.toList[2]? = some v1 → a.tmps.toList[35]? = some v2 → a.tmps.toList[36]? = some v3 → a.tmps.toList[37]? = some v4 → a.tmps.toList[3]? = some v5 → a.tmps.toList[4]? = some v6 → a.tmps.toList[5]? = some v7 → P a) ?_ a h1 h2
  intro x0 x1 x2 x3 x4 x5 x6 x7 x8 x9 x10 x11 x12 x13 x14 x15 x16 x17 x18 x19 x20 x21 x22 x23 x24 x25 x26 x27 x28 x29 x30 x31 x32 x33 x34 x35 x36 x37 x38 x39 x40 x41 x42 x43 x44 x45 x46 x47 x48 x49 x50 x51 x52 x53 x54 x55 x56 x57 x58 x59 x60 x61 x62 x63 x64 x65 x66 x67 x68 x69 x70 x71 x72 x73 x74 x75 x76 x77 x78 x79 x80 x81 x82 x83 x84 x85 x86 x87 x88 x89 x90 x91 x92 x93 x94 x95 x96 x97 x98 x99 x100 x101 x102 x103 x104 x105 x106 x107 x108 x109 x110 x111 x112 x113 x114 x115 x116 x117 x118 x119 x120 x121 x122 x123 x124 x125 x126 x127 x128 x129 x130 x131 x132 x133 x134 x135 x136 x137 x138 x139 x140 x141 x142 x143 x144 x145 x146 x147 x148 x149 x150 x151 x152 x153 x154 x155 x156 x157 x158 x159 x160 x161 x162 x163 x164 x165 x166 x167 x168 x169 x170 x171 x172 x173 x174 x175 x176 x177 x178 x179 x180 x181 x182 x183 x184 x185 x186 x187 e0 e1 e2 e3 e4 e5 e6 e7
  obtain rfl : x1 = v0 := Option.some.inj e0
  obtain rfl : x2 = v1 := Option.some.inj e1
  obtain rfl : x35 = v2 := Option.some.inj e2
  obtain rfl : x36 = v3 := Option.some.inj e3
  obtain rfl : x37 = v4 := Option.some.inj e4
  obtain rfl : x3 = v5 := Option.some.inj e5
  obtain rfl : x4 = v6 := Option.some.inj e6
  obtain rfl : x5 = v7 := Option.some.inj e7
  exact h x0 x6 x7 x8 x9 x10 x11 x12 x13 x14 x15 x16 x17 x18 x19 x20 x21 x22 x23 x24 x25 x26 x27 x28 x29 x30 x31 x32 x33 x34 x38 x39 x40 x41 x42 x43 x44 x45 x46 x47 x48 x49 x50 x51 x52 x53 x54 x55 x56 x57 x58 x59 x60 x61 x62 x63 x64 x65 x66 x67 x68 x69 x70 x71 x72 x73 x74 x75 x76 x77 x78 x79 x80 x81 x82 x83 x84 x85 x86 x87 x88 x89 x90 x91 x92 x93 x94 x95 x96 x97 x98 x99 x100 x101 x102 x103 x104 x105 x106 x107 x108 x109 x110 x111 x112 x113 x114 x115 x116 x117 x118 x119 x120 x121 x122 x123 x124 x125 x126 x127 x128 x129 x130 x131 x132 x133 x134 x135 x136 x137 x138 x139 x140 x141 x142 x143 x144 x145 x146 x147 x148 x149 x150 x151 x152 x153 x154 x155 x156 x157 x158 x159 x160 x161 x162 x163 x164 x165 x166 x167 x168 x169 x170 x171 x172 x173 x174 x175 x176 x177 x178 x179 x180 x181 x182 x183 x184 x185 x186 x187
set_option maxRecDepth 1000000 in
set_option maxHeartbeats 16000000 in
theorem mr_c12_wp {Q : Exit → Act → World → Prop} {w : World} {cl : List Con} {c j b o E : Nat} {wo : World} (hN : ∀ a', Frm 188 [(1, .pointer (some ⟨w.heap.size, 0, none⟩)), (2, .pointer (some ⟨w.heap.size + 1, 0, none⟩)), (35, .slice (some ⟨b, o, none⟩) cl.length c), (36, .int .i64 (cl.length : Nat)), (37, .int .i64 (j : Nat)), (3, .int .i64 (j : Nat)), (4, .pointer (some ⟨E, 0, none⟩)), (5, .int .i64 13)] a' → Q .normal a' wo) : ∀ ac, Frm 188 [(1, .pointer (some ⟨w.heap.size, 0, none⟩)), (2, .pointer (some ⟨w.heap.size + 1, 0, none⟩)), (35, .slice (some ⟨b, o, none⟩) cl.length c), (36, .int .i64 (cl.length : Nat)), (37, .int .i64 (j : Nat)), (3, .int .i64 (j : Nat)), (4, .pointer (some ⟨E, 0, none⟩)), (5, .int .i64 0)] ac → Code.wp Tryd.prog c_mr_c12 Q ac wo := by
  refine open_mr_c12 (P := fun a => Code.wp Tryd.prog c_mr_c12 Q a wo) ?_
  intro x0 x6 x7 x8 x9 x10 x11 x12 x13 x14 x15 x16 x17 x18 x19 x20 x21 x22 x23 x24 x25 x26 x27 x28 x29 x30 x31 x32 x33 x34 x38 x39 x40 x41 x42 x43 x44 x45 x46 x47 x48 x49 x50 x51 x52 x53 x54 x55 x56 x57 x58 x59 x60 x61 x62 x63 x64 x65 x66 x67 x68 x69 x70 x71 x72 x73 x74 x75 x76 x77 x78 x79 x80 x81 x82 x83 x84 x85 x86 x87 x88 x89 x90 x91 x92 x93 x94 x95 x96 x97 x98 x99 x100 x101 x102 x103 x104 x105 x106 x107 x108 x109 x110 x111 x112 x113 x114 x115 x116 x117 x118 x119 x120 x121 x122 x123 x124 x125 x126 x127 x128 x129 x130 x131 x132 x133 x134 x135 x136 x137 x138 x139 x140 x141 x142 x143 x144 x145 x146 x147 x148 x149 x150 x151 x152 x153 x154 x155 x156 x157 x158 x159 x160 x161 x162 x163 x164 x165 x166 x167 x168 x169 x170 x171 x172 x173 x174 x175 x176 x177 x178 x179 x180 x181 x182 x183 x184 x185 x186 x187
  conv => arg 2; whnf
  have HN := Lib.hid hN
  clear hN
  go_wp2_with fail
  exact HN.out _ (id ⟨rfl, rfl, rfl, rfl, rfl, rfl, rfl, rfl, rfl, rfl, trivial⟩)
noncomputable def c_mr_c14 : Code := sub [1, 1, 1, 0, 1, 0, 0, 1, 1, 0, 0, 1, 1, 0, 1, 1, 1, 1, 1, 0] (Tryd.f8.body.getD .skip)
set_option maxRecDepth 1000000 in
theorem open_mr_c14 {P : Act → Prop} {v0 v1 v2 v3 v4 v5 v6 v7 : Value} (h : ∀ x0 x6 x7 x8 x9 x10 x11 x12 x13 x14 x15 x16 x17 x18 x19 x20 x21 x22 x23 x24 x25 x26 x27 x28 x29 x30 x31 x32 x33 x34 x38 x39 x40 x41 x42 x43 x44 x45 x46 x47 x48 x49 x50 x51 x52 x53 x54 x55 x56 x57 x58 x59 x60 x61 x62 x63 x64 x65 x66 x67 x68 x69 x70 x71 x72 x73 x74 x75 x76 x77 x78 x79 x80 x81 x82 x83 x84 x85 x86 x87 x88 x89 x90 x91 x92 x93 x94 x95 x96 x97 x98 x99 x100 x101 x102 x103 x104 x105 x106 x107 x108 x109 x110 x111 x112 x113 x114 x115 x116 x117 x118 x119 x120 x121 x122 x123 x124 x125 x126 x127 x128 x129 x130 x131 x132 x133 x134 x135 x136 x137 x138 x139 x140 x141 x142 x143 x144 x145 x146 x147 x148 x149 x150 x151 x152 x153 x154 x155 x156 x157 x158 x159 x160 x161 x162 x163 x164 x165 x166 x167 x168 x169 x170 x171 x172 x173 x174 x175 x176 x177 x178 x179 x180 x181 x182 x183 x184 x185 x186 x187 : Value, P ⟨(x0 :: v0 :: v1 :: v5 :: v6 :: v7 :: x6 :: x7 :: x8 :: x9 :: x10 :: x11 :: x12 :: x13 :: x14 :: x15 :: x16 :: x17 :: x18 :: x19 :: x20 :: x21 :: x22 :: x23 :: x24 :: x25 :: x26 :: x27 :: x28 :: x29 :: x30 :: x31 :: x32 :: x33 :: x34 :: v2 :: v3 :: v4 :: x38 :: x39 :: x40 :: x41 :: x42 :: x43 :: x44 :: x45 :: x46 :: x47 :: x48 :: x49 :: x50 :: x51 :: x52 :: x53 :: x54 :: x55 :: x56 :: x57 :: x58 :: x59 :: x60 :: x61 :: x62 :: x63 :: x64 :: x65 :: x66 :: x67 :: x68 :: x69 :: x70 :: x71 :: x72 :: x73 :: x74 :: x75 :: x76 :: x77 :: x78 :: x79 :: x80 :: x81 :: x82 :: x83 :: x84 :: x85 :: x86 :: x87 :: x88 :: x89 :: x90 :: x91 :: x92 :: x93 :: x94 :: x95 :: x96 :: x97 :: x98 :: x99 :: x100 :: x101 :: x102 :: x103 :: x104 :: x105 :: x106 :: x107 :: x108 :: x109 :: x110 :: x111 :: x112 :: x113 :: x114 :: x115 :: x116 :: x117 :: x118 :: x119 :: x120 :: x121 :: x122 :: x123 :: x124 :: x125 :: x126 :: x127 :: x128 :: x129 :: x130 :: x131 :: x132 :: x133 :: x134 :: x135 :: x136 :: x137 :: x138 :: x139 :: x140 :: x141 :: x142 :: x143 :: x144 :: x145 :: x146 :: x147 :: x148 :: x149 :: x150 :: x151 :: x152 :: x153 :: x154 :: x155 :: x156 :: x157 :: x158 :: x159 :: x160 :: x161 :: x162 :: x163 :: x164 :: x165 :: x166 :: x167 :: x168 :: x169 :: x170 :: x171 :: x172 :: x173 :: x174 :: x175 :: x176 :: x177 :: x178 :: x179 :: x180 :: x181 :: x182 :: x183 :: x184 :: x185 :: x186 :: x187 :: []).toArray, []⟩) : ∀ a, Frm 188 [(1, v0), (2, v1), (35, v2), (36, v3), (37, v4), (3, v5), (4, v6), (5, v7)] a → P a := by
  rintro a ⟨h1, h2, e0, e1, e2, e3, e4, e5, e6, e7, _⟩
  revert e0 e1 e2 e3 e4 e5 e6 e7
  refine frame_mr (P := fun a => a.tmps.toList[1]? = some v0 → a.tmps.toList[2]? = some v1 → a.tmps.toList[35]? = some v2 → a.tmps.toList[36]? = some v3 → a.tmps.toList[37]? = some v4 → a.tmps.toList[3]? = some v5 → a.tmps.toList[4]? = some v6 → a.tmps.toList[5]? = some v7 → P a) ?_ a h1 h2
  intro x0 x1 x2 x3 x4 x5 x6 x7 x8 x9 x10 x11 x12 x13 x14 x15 x16 x17 x18 x19 x20 x21 x22 x23 x24 x25 x26 x27 x28 x29 x30 x31 x32 x33 x34 x35 x36 x37 x38 x39 x40 x41 x42 x43 x44 x45 x46 x47 x48 x49 x50 x51 x52 x53 x54 x55 x56 x57 x58 x59 x60 x61 x62 x63 x64 x65 x66 x67 x68 x69 x70 x71 x72 x73 x74 x75 x76 x77 x78 x79 x80 x81 x82 x83 x84 x85 x86 x87 x88 x89 x90 x91 x92 x93 x94 x95 x96 x97 x98 x99 x100 x101 x102 x103 x104 x105 x106 x107 x108 x109 x110 x111 x112 x113 x114 x115 x116 x117 x118 x119 x120 x121 x122 x123 x124 x125 x126 x127 x128 x129 x130 x131 x132 x133 x134 x135 x136 x137 x138 x139 x140 x141 x142 x143 x144 x145 x146 x147 x148 x149 x150 x151 x152 x153 x154 x155 x156 x157 x158 x159 x160 x161 x162 x163 x164 x165 x166 x167 x168 x169 x170 x171 x172 x173 x174 x175 x176 x177 x178 x179 x180 x181 x182 x183 x184 x185 x186 x187 e0 e1 e2 e3 e4 e5 e6 e7
  obtain rfl : x1 = v0 := Option.some.inj e0
  obtain rfl : x2 = v1 := Option.some.inj e1
  obtain rfl : x35 = v2 := Option.some.inj e2
  obtain rfl : x36 = v3 := Option.some.inj e3
  obtain rfl : x37 = v4 := Option.some.inj e4
  obtain rfl : x3 = v5 := Option.some.inj e5
  obtain rfl : x4 = v6 := Option.some.inj e6
  obtain rfl : x5 = v7 := Option.some.inj e7
  exact h x0 x6 x7 x8 x9 x10 x11 x12 x13 x14 x15 x16 x17 x18 x19 x20 x21 x22 x23 x24 x25 x26 x27 x28 x29 x30 x31 x32 x33 x34 x38 x39 x40 x41 x42 x43 x44 x45 x46 x47 x48 x49 x50 x51 x52 x53 x54 x55 x56 x57 x58 x59 x60 x61 x62 x63 x64 x65 x66 x67 x68 x69 x70 x71 x72 x73 x74 x75 x76 x77 x78 x79 x80 x81 x82 x83 x84 x85 x86 x87 x88 x89 x90 x91 x92 x93 x94 x95 x96 x97 x98 x99 x100 x101 x102 x103 x104 x105 x106 x107 x108 x109 x110 x111 x112 x113 x114 x115 x116 x117 x118 x119 x120 x121 x122 x123 x124 x125 x126 x127 x128 x129 x130 x131 x132 x133 x134 x135 x136 x137 x138 x139 x140 x141 x142 x143 x144 x145 x146 x147 x148 x149 x150 x151 x152 x153 x154 x155 x156 x157 x158 x159 x160 x161 x162 x163 x164 x165 x166 x167 x168 x169 x170 x171 x172 x173 x174 x175 x176 x177 x178 x179 x180 x181 x182 x183 x184 x185 x186 x187
set_option maxRecDepth 1000000 in
set_option maxHeartbeats 16000000 in
theorem mr_c14_wp {Q : Exit → Act → World → Prop} {w : World} {cl : List Con} {c j b o E : Nat} {wo : World} (hN : ∀ a', Frm 188 [(1, .pointer (some ⟨w.heap.size, 0, none⟩)), (2, .pointer (some ⟨w.heap.size + 1, 0, none⟩)), (35, .slice (some ⟨b, o, none⟩) cl.length c), (36, .int .i64 (cl.length : Nat)), (37, .int .i64 (j : Nat)), (3, .int .i64 (j : Nat)), (4, .pointer (some ⟨E, 0, none⟩)), (5, .int .i64 3)] a' → Q .normal a' wo) : ∀ ac, Frm 188 [(1, .pointer (some ⟨w.heap.size, 0, none⟩)), (2, .pointer (some ⟨w.heap.size + 1, 0, none⟩)), (35, .slice (some ⟨b, o, none⟩) cl.length c), (36, .int .i64 (cl.length : Nat)), (37, .int .i64 (j : Nat)), (3, .int .i64 (j : Nat)), (4, .pointer (some ⟨E, 0, none⟩)), (5, .int .i64 0)] ac → Code.wp Tryd.prog c_mr_c14 Q ac wo := by
  refine open_mr_c14 (P := fun a => Code.wp Tryd.prog c_mr_c14 Q a wo) ?_
  intro x0 x6 x7 x8 x9 x10 x11 x12 x13 x14 x15 x16 x17 x18 x19 x20 x21 x22 x23 x24 x25 x26 x27 x28 x29 x30 x31 x32 x33 x34 x38 x39 x40 x41 x42 x43 x44 x45 x46 x47 x48 x49 x50 x51 x52 x53 x54 x55 x56 x57 x58 x59 x60 x61 x62 x63 x64 x65 x66 x67 x68 x69 x70 x71 x72 x73 x74 x75 x76 x77 x78 x79 x80 x81 x82 x83 x84 x85 x86 x87 x88 x89 x90 x91 x92 x93 x94 x95 x96 x97 x98 x99 x100 x101 x102 x103 x104 x105 x106 x107 x108 x109 x110 x111 x112 x113 x114 x115 x116 x117 x118 x119 x120 x121 x122 x123 x124 x125 x126 x127 x128 x129 x130 x131 x132 x133 x134 x135 x136 x137 x138 x139 x140 x141 x142 x143 x144 x145 x146 x147 x148 x149 x150 x151 x152 x153 x154 x155 x156 x157 x158 x159 x160 x161 x162 x163 x164 x165 x166 x167 x168 x169 x170 x171 x172 x173 x174 x175 x176 x177 x178 x179 x180 x181 x182 x183 x184 x185 x186 x187
  conv => arg 2; whnf
  have HN := Lib.hid hN
  clear hN
  go_wp2_with fail
  exact HN.out _ (id ⟨rfl, rfl, rfl, rfl, rfl, rfl, rfl, rfl, rfl, rfl, trivial⟩)
noncomputable def c_mr_c11 : Code := sub [1, 1, 1, 0, 1, 0, 0, 1, 1, 0, 0, 1, 1, 0, 1, 1, 0] (Tryd.f8.body.getD .skip)
set_option maxRecDepth 1000000 in
theorem open_mr_c11 {P : Act → Prop} {v0 v1 v2 v3 v4 v5 v6 v7 : Value} (h : ∀ x0 x6 x7 x8 x9 x10 x11 x12 x13 x14 x15 x16 x17 x18 x19 x20 x21 x22 x23 x24 x25 x26 x27 x28 x29 x30 x31 x32 x33 x34 x38 x39 x40 x41 x42 x43 x44 x45 x46 x47 x48 x49 x50 x51 x52 x53 x54 x55 x56 x57 x58 x59 x60 x61 x62 x63 x64 x65 x66 x67 x68 x69 x70 x71 x72 x73 x74 x75 x76 x77 x78 x79 x80 x81 x82 x83 x84 x85 x86 x87 x88 x89 x90 x91 x92 x93 x94 x95 x96 x97 x98 x99 x100 x101 x102 x103 x104 x105 x106 x107 x108 x109 x110 x111 x112 x113 x114 x115 x116 x117 x118 x119 x120 x121 x122 x123 x124 x125 x126 x127 x128 x129 x130 x131 x132 x133 x134 x135 x136 x137 x138 x139 x140 x141 x142 x143 x144 x145 x146 x147 x148 x149 x150 x151 x152 x153 x154 x155 x156 x157 x158 x159 x160 x161 x162 x163 x164 x165 x166 x167 x168 x169 x170 x171 x172 x173 x174 x175 x176 x177 x178 x179 x180 x181 x182 x183 x184 x185 x186 x187 : Value, P ⟨(x0 :: v0 :: v1 :: v5 :: v6 :: v7 :: x6 :: x7 :: x8 :: x9 :: x10 :: x11 :: x12 :: x13 :: x14 :: x15 :: x16 :: x17 :: x18 :: x19 :: x20 :: x21 :: x22 :: x23 :: x24 :: x25 :: x26 :: x27 :: x28 :: x29 :: x30 :: x31 :: x32 :: x33 :: x34 :: v2 :: v3 :: v4 :: x38 :: x39 :: x40 :: x41 :: x42 :: x43 :: x44 :: x45 :: x46 :: x47 :: x48 :: x49 :: x50 :: x51 :: x52 :: x53 :: x54 :: x55 :: x56 :: x57 :: x58 :: x59 :: x60 :: x61 :: x62 :: x63 :: x64 :: x65 :: x66 :: x67 :: x68 :: x69 :: x70 :: x71 :: x72 :: x73 :: x74 :: x75 :: x76 :: x77 :: x78 :: x79 :: x80 :: x81 :: x82 :: x83 :: x84 :: x85 :: x86 :: x87 :: x88 :: x89 :: x90 :: x91 :: x92 :: x93 :: x94 :: x95 :: x96 :: x97 :: x98 :: x99 :: x100 :: x101 :: x102 :: x103 :: x104 :: x105 :: x106 :: x107 :: x108 :: x109 :: x110 :: x111 :: x112 :: x113 :: x114 :: x115 :: x116 :: x117 :: x118 :: x119 :: x120 :: x121 :: x122 :: x123 :: x124 :: x125 :: x126 :: x127 :: x128 :: x129 :: x130 :: x131 :: x132 :: x133 :: x134 :: x135 :: x136 :: x137 :: x138 :: x139 :: x140 :: x141 :: x142 :: x143 :: x144 :: x145 :: x146 :: x147 :: x148 :: x149 :: x150 :: x151 :: x152 :: x153 :: x154 :: x155 :: x156 :: x157 :: x158 :: x159 :: x160 :: x161 :: x162 :: x163 :: x164 :: x165 :: x166 :: x167 :: x168 :: x169 :: x170 :: x171 :: x172 :: x173 :: x174 :: x175 :: x176 :: x177 :: x178 :: x179 :: x180 :: x181 :: x182 :: x183 :: x184 :: x185 :: x186 :: x187 :: []).toArray, []⟩) : ∀ a, Frm 188 [(1, v0), (2, v1), (35, v2), (36, v3), (37, v4), (3, v5), (4, v6), (5, v7)] a → P a := by
  rintro a ⟨h1, h2, e0, e1, e2, e3, e4, e5, e6, e7, _⟩
  revert e0 e1 e2 e3 e4 e5 e6 e7
  refine frame_mr (P := fun a => a.tmps.toList[1]? = some v0 → a.tmps.toList[2]? = some v1 → a.tmps.toList[35]? = some v2 → a.tmps.toList[36]? = some v3 → a.tmps.toList[37]? = some v4 → a.tmps.toList[3]? = some v5 → a.tmps.toList[4]? = some v6 → a.tmps.toList[5]? = some v7 → P a) ?_ a h1 h2
  intro x0 x1 x2 x3 x4 x5 x6 x7 x8 x9 x10 x11 x12 x13 x14 x15 x16 x17 x18 x19 x20 x21 x22 x23 x24 x25 x26 x27 x28 x29 x30 x31 x32 x33 x34 x35 x36 x37 x38 x39 x40 x41 x42 x43 x44 x45 x46 x47 x48 x49 x50 x51 x52 x53 x54 x55 x56 x57 x58 x59 x60 x61 x62 x63 x64 x65 x66 x67 x68 x69 x70 x71 x72 x73 x74 x75 x76 x77 x78 x79 x80 x81 x82 x83 x84 x85 x86 x87 x88 x89 x90 x91 x92 x93 x94 x95 x96 x97 x98 x99 x100 x101 x102 x103 x104 x105 x106 x107 x108 x109 x110 x111 x112 x113 x114 x115 x116 x117 x118 x119 x120 x121 x122 x123 x124 x125 x126 x127 x128 x129 x130 x131 x132 x133 x134 x135 x136 x137 x138 x139 x140 x141 x142 x143 x144 x145 x146 x147 x148 x149 x150 x151 x152 x153 x154 x155 x156 x157 x158 x159 x160 x161 x162 x163 x164 x165 x166 x167 x168 x169 x170 x171 x172 x173 x174 x175 x176 x177 x178 x179 x180 x181 x182 x183 x184 x185 x186 x187 e0 e1 e2 e3 e4 e5 e6 e7
  obtain rfl : x1 = v0 := Option.some.inj e0
  obtain rfl : x2 = v1 := Option.some.inj e1
  obtain rfl : x35 = v2 := Option.some.inj e2
  obtain rfl : x36 = v3 := Option.some.inj e3
  obtain rfl : x37 = v4 := Option.some.inj e4
  obtain rfl : x3 = v5 := Option.some.inj e5
  obtain rfl : x4 = v6 := Option.some.inj e6
  obtain rfl : x5 = v7 := Option.some.inj e7
  exact h x0 x6 x7 x8 x9 x10 x11 x12 x13 x14 x15 x16 x17 x18 x19 x20 x21 x22 x23 x24 x25 x26 x27 x28 x29 x30 x31 x32 x33 x34 x38 x39 x40 x41 x42 x43 x44 x45 x46 x47 x48 x49 x50 x51 x52 x53 x54 x55 x56 x57 x58 x59 x60 x61 x62 x63 x64 x65 x66 x67 x68 x69 x70 x71 x72 x73 x74 x75 x76 x77 x78 x79 x80 x81 x82 x83 x84 x85 x86 x87 x88 x89 x90 x91 x92 x93 x94 x95 x96 x97 x98 x99 x100 x101 x102 x103 x104 x105 x106 x107 x108 x109 x110 x111 x112 x113 x114 x115 x116 x117 x118 x119 x120 x121 x122 x123 x124 x125 x126 x127 x128 x129 x130 x131 x132 x133 x134 x135 x136 x137 x138 x139 x140 x141 x142 x143 x144 x145 x146 x147 x148 x149 x150 x151 x152 x153 x154 x155 x156 x157 x158 x159 x160 x161 x162 x163 x164 x165 x166 x167 x168 x169 x170 x171 x172 x173 x174 x175 x176 x177 x178 x179 x180 x181 x182 x183 x184 x185 x186 x187
set_option maxRecDepth 1000000 in
set_option maxHeartbeats 16000000 in
theorem mr_c11_wp {Q : Exit → Act → World → Prop} {w : World} {cl : List Con} {c j b o E : Nat} {wo : World} {sz : Int} {rl : List Rel} {B : Option Addr} {d : Nat} {nm : ByteArray} {v : Int} {pv : Option Con} (hj : j < cl.length) (hb : b < wo.heap.size) (hp0 : wo.heap[w.heap.size]? = some (.cells #[.int .i64 sz, .slice (some ⟨b, o, none⟩) cl.length c, .slice B rl.length d] 25 (0, 0))) (hpf : wo.heap[w.heap.size + 1]? = some (.cells #[.int .i64 0, .int .i64 0] 27 (0, 0))) (hpc : wo.heap[E]? = some (.cells #[.string nm, .int .i64 v] 44 (0, 0))) (hcl : cl.length ≤ 300) (hpv : ∀ p, pv = some p → ∃ i, j = i + 1 ∧ wo.cell? ⟨b, o + i * 2, none⟩ = some (.string p.nm)) (hpv0 : pv = none → j = 0) (hN : ∀ a' wx, Frm 188 [(1, .pointer (some ⟨w.heap.size, 0, none⟩)), (2, .pointer (some ⟨w.heap.size + 1, 0, none⟩)), (35, .slice (some ⟨b, o, none⟩) cl.length c), (36, .int .i64 (cl.length : Nat)), (37, .int .i64 (j : Nat)), (3, .int .i64 (j : Nat)), (4, .pointer (some ⟨E, 0, none⟩)), (5, .int .i64 0), (59, .bool (pv.any fun p => decide (0 ≤ cmpS p.nm nm)))] a' → (wx.heap = wo.heap ∧ Below wo.heap.size wo wx) → Q .normal a' wx) : ∀ ac, Frm 188 [(1, .pointer (some ⟨w.heap.size, 0, none⟩)), (2, .pointer (some ⟨w.heap.size + 1, 0, none⟩)), (35, .slice (some ⟨b, o, none⟩) cl.length c), (36, .int .i64 (cl.length : Nat)), (37, .int .i64 (j : Nat)), (3, .int .i64 (j : Nat)), (4, .pointer (some ⟨E, 0, none⟩)), (5, .int .i64 0)] ac → Code.wp Tryd.prog c_mr_c11 Q ac wo := by
  refine open_mr_c11 (P := fun a => Code.wp Tryd.prog c_mr_c11 Q a wo) ?_
  intro x0 x6 x7 x8 x9 x10 x11 x12 x13 x14 x15 x16 x17 x18 x19 x20 x21 x22 x23 x24 x25 x26 x27 x28 x29 x30 x31 x32 x33 x34 x38 x39 x40 x41 x42 x43 x44 x45 x46 x47 x48 x49 x50 x51 x52 x53 x54 x55 x56 x57 x58 x59 x60 x61 x62 x63 x64 x65 x66 x67 x68 x69 x70 x71 x72 x73 x74 x75 x76 x77 x78 x79 x80 x81 x82 x83 x84 x85 x86 x87 x88 x89 x90 x91 x92 x93 x94 x95 x96 x97 x98 x99 x100 x101 x102 x103 x104 x105 x106 x107 x108 x109 x110 x111 x112 x113 x114 x115 x116 x117 x118 x119 x120 x121 x122 x123 x124 x125 x126 x127 x128 x129 x130 x131 x132 x133 x134 x135 x136 x137 x138 x139 x140 x141 x142 x143 x144 x145 x146 x147 x148 x149 x150 x151 x152 x153 x154 x155 x156 x157 x158 x159 x160 x161 x162 x163 x164 x165 x166 x167 x168 x169 x170 x171 x172 x173 x174 x175 x176 x177 x178 x179 x180 x181 x182 x183 x184 x185 x186 x187
  conv => arg 2; whnf
  have hbo : b < wo.heap.size := hb
  have HN := Lib.hid hN
  have HPV := Lib.hid hpv
  have HPV0 := Lib.hid hpv0
  clear hN hpv hpv0
  have p0 := hp0
  have pf := hpf
  have pc := hpc
  clear hp0 hpf hpc
  have p0_0 := cv0 p0
  have p0_1 := cv1 p0
  have p0_2 := cv2 p0
  have p0_l := lt_heap p0
  have P0 := Lib.hid p0
  clear p0
  have pf_0 := cv0 pf
  have pf_1 := cv1 pf
  have pf_l := lt_heap pf
  have PF := Lib.hid pf
  clear pf
  have pc_0 := cv0 pc
  have pc_1 := cv1 pc
  have pc_l := lt_heap pc
  have PC := Lib.hid pc
  clear pc
  cases pv with
  | none =>
    have t1 : decide ((0 : Int) < (j : Int)) = false := decide_eq_false (by have := HPV0.out rfl; omega)
    have t1n : decide (0 < j) = false := decide_eq_false (by have := HPV0.out rfl; omega)
    go_big_quiet (fail)
    go_wp2_with fail
    exact HN.out _ _ (id ⟨rfl, rfl, rfl, rfl, rfl, rfl, rfl, rfl, rfl, rfl, rfl, trivial⟩) ⟨rfl, below_nq (Below.refl _ _) _⟩
  | some p =>
    obtain ⟨i, hji, f1⟩ := HPV.out p rfl
    have t1 : decide ((0 : Int) < (j : Int)) = true := decide_eq_true (by omega)
    have t1n : decide (0 < j) = true := decide_eq_true (by omega)
    have hj1 : (j : Int) - 1 = (i : Int) := by omega
    have u0 : (0 : Int) ≤ (i : Int) := by omega
    have u1 : (i : Int) < (cl.length : Int) := by omega
    obtain ⟨bl, hb⟩ : ∃ bl, Op.bytesLess nm.toList p.nm.toList = bl := ⟨_, rfl⟩
    obtain ⟨be, he⟩ : ∃ be, (nm.toList == p.nm.toList) = be := ⟨_, rfl⟩
    have hany : ((some p).any fun p => decide (0 ≤ cmpS p.nm nm)) = (bl || be) := by
      simp only [Option.any_some, cmpS_ge]
      cases h3 : Op.bytesLess p.nm.toList nm.toList with
      | true =>
        have h4 := less_asym _ _ h3
        rw [h4] at hb
        subst hb
        have h5 : (nm.toList == p.nm.toList) = false := by rw [beq_eq_false_iff_ne]; intro e; rw [e, less_irr] at h3; cases h3
        rw [h5] at he
        subst he
        rfl
      | false =>
        cases bl with
        | true => rfl
        | false =>
          have h5 := less_tri _ _ h3 hb
          rw [h5, beq_self_eq_true] at he
          subst he
          rfl
    have HANY := Lib.hid hany
    clear hany hji
    go_big_quiet (fail)
    go_wp2_with fail
    rw [HANY.out] at HN
    exact HN.out _ _ (id ⟨rfl, rfl, rfl, rfl, rfl, rfl, rfl, rfl, rfl, rfl, rfl, trivial⟩) ⟨rfl, below_nq (Below.refl _ _) _⟩
noncomputable def c_mr_c13 : Code := sub [1, 1, 1, 0, 1, 0, 0, 1, 1, 0, 0, 1, 1, 0, 1, 1, 1, 1, 0] (Tryd.f8.body.getD .skip)
set_option maxRecDepth 1000000 in
theorem open_mr_c13 {P : Act → Prop} {v0 v1 v2 v3 v4 v5 v6 v7 : Value} (h : ∀ x0 x6 x7 x8 x9 x10 x11 x12 x13 x14 x15 x16 x17 x18 x19 x20 x21 x22 x23 x24 x25 x26 x27 x28 x29 x30 x31 x32 x33 x34 x38 x39 x40 x41 x42 x43 x44 x45 x46 x47 x48 x49 x50 x51 x52 x53 x54 x55 x56 x57 x58 x59 x60 x61 x62 x63 x64 x65 x66 x67 x68 x69 x70 x71 x72 x73 x74 x75 x76 x77 x78 x79 x80 x81 x82 x83 x84 x85 x86 x87 x88 x89 x90 x91 x92 x93 x94 x95 x96 x97 x98 x99 x100 x101 x102 x103 x104 x105 x106 x107 x108 x109 x110 x111 x112 x113 x114 x115 x116 x117 x118 x119 x120 x121 x122 x123 x124 x125 x126 x127 x128 x129 x130 x131 x132 x133 x134 x135 x136 x137 x138 x139 x140 x141 x142 x143 x144 x145 x146 x147 x148 x149 x150 x151 x152 x153 x154 x155 x156 x157 x158 x159 x160 x161 x162 x163 x164 x165 x166 x167 x168 x169 x170 x171 x172 x173 x174 x175 x176 x177 x178 x179 x180 x181 x182 x183 x184 x185 x186 x187 : Value, P ⟨(x0 :: v0 :: v1 :: v5 :: v6 :: v7 :: x6 :: x7 :: x8 :: x9 :: x10 :: x11 :: x12 :: x13 :: x14 :: x15 :: x16 :: x17 :: x18 :: x19 :: x20 :: x21 :: x22 :: x23 :: x24 :: x25 :: x26 :: x27 :: x28 :: x29 :: x30 :: x31 :: x32 :: x33 :: x34 :: v2 :: v3 :: v4 :: x38 :: x39 :: x40 :: x41 :: x42 :: x43 :: x44 :: x45 :: x46 :: x47 :: x48 :: x49 :: x50 :: x51 :: x52 :: x53 :: x54 :: x55 :: x56 :: x57 :: x58 :: x59 :: x60 :: x61 :: x62 :: x63 :: x64 :: x65 :: x66 :: x67 :: x68 :: x69 :: x70 :: x71 :: x72 :: x73 :: x74 :: x75 :: x76 :: x77 :: x78 :: x79 :: x80 :: x81 :: x82 :: x83 :: x84 :: x85 :: x86 :: x87 :: x88 :: x89 :: x90 :: x91 :: x92 :: x93 :: x94 :: x95 :: x96 :: x97 :: x98 :: x99 :: x100 :: x101 :: x102 :: x103 :: x104 :: x105 :: x106 :: x107 :: x108 :: x109 :: x110 :: x111 :: x112 :: x113 :: x114 :: x115 :: x116 :: x117 :: x118 :: x119 :: x120 :: x121 :: x122 :: x123 :: x124 :: x125 :: x126 :: x127 :: x128 :: x129 :: x130 :: x131 :: x132 :: x133 :: x134 :: x135 :: x136 :: x137 :: x138 :: x139 :: x140 :: x141 :: x142 :: x143 :: x144 :: x145 :: x146 :: x147 :: x148 :: x149 :: x150 :: x151 :: x152 :: x153 :: x154 :: x155 :: x156 :: x157 :: x158 :: x159 :: x160 :: x161 :: x162 :: x163 :: x164 :: x165 :: x166 :: x167 :: x168 :: x169 :: x170 :: x171 :: x172 :: x173 :: x174 :: x175 :: x176 :: x177 :: x178 :: x179 :: x180 :: x181 :: x182 :: x183 :: x184 :: x185 :: x186 :: x187 :: []).toArray, []⟩) : ∀ a, Frm 188 [(1, v0), (2, v1), (35, v2), (36, v3), (37, v4), (3, v5), (4, v6), (5, v7)] a → P a := by
  rintro a ⟨h1, h2, e0, e1, e2, e3, e4, e5, e6, e7, _⟩
  revert e0 e1 e2 e3 e4 e5 e6 e7
  refine frame_mr (P := fun a => a.tmps.toList[1]? = some v0 → a.tmps.toList[2]? = some v1 → a.tmps.toList[35]? = some v2 → a.tmps.toList[36]? = some v3 → a.tmps.toList[37]? = some v4 → a.tmps.toList[3]? = some v5 → a.tmps.toList[4]? = some v6 → a.tmps.toList[5]? = some v7 → P a) ?_ a h1 h2
  intro x0 x1 x2 x3 x4 x5 x6 x7 x8 x9 x10 x11 x12 x13 x14 x15 x16 x17 x18 x19 x20 x21 x22 x23 x24 x25 x26 x27 x28 x29 x30 x31 x32 x33 x34 x35 x36 x37 x38 x39 x40 x41 x42 x43 x44 x45 x46 x47 x48 x49 x50 x51 x52 x53 x54 x55 x56 x57 x58 x59 x60 x61 x62 x63 x64 x65 x66 x67 x68 x69 x70 x71 x72 x73 x74 x75 x76 x77 x78 x79 x80 x81 x82 x83 x84 x85 x86 x87 x88 x89 x90 x91 x92 x93 x94 x95 x96 x97 x98 x99 x100 x101 x102 x103 x104 x105 x106 x107 x108 x109 x110 x111 x112 x113 x114 x115 x116 x117 x118 x119 x120 x121 x122 x123 x124 x125 x126 x127 x128 x129 x130 x131 x132 x133 x134 x135 x136 x137 x138 x139 x140 x141 x142 x143 x144 x145 x146 x147 x148 x149 x150 x151 x152 x153 x154 x155 x156 x157 x158 x159 x160 x161 x162 x163 x164 x165 x166 x167 x168 x169 x170 x171 x172 x173 x174 x175 x176 x177 x178 x179 x180 x181 x182 x183 x184 x185 x186 x187 e0 e1 e2 e3 e4 e5 e6 e7
  obtain rfl : x1 = v0 := Option.some.inj e0
  obtain rfl : x2 = v1 := Option.some.inj e1
  obtain rfl : x35 = v2 := Option.some.inj e2
  obtain rfl : x36 = v3 := Option.some.inj e3
  obtain rfl : x37 = v4 := Option.some.inj e4
  obtain rfl : x3 = v5 := Option.some.inj e5
  obtain rfl : x4 = v6 := Option.some.inj e6
  obtain rfl : x5 = v7 := Option.some.inj e7
  exact h x0 x6 x7 x8 x9 x10 x11 x12 x13 x14 x15 x16 x17 x18 x19 x20 x21 x22 x23 x24 x25 x26 x27 x28 x29 x30 x31 x32 x33 x34 x38 x39 x40 x41 x42 x43 x44 x45 x46 x47 x48 x49 x50 x51 x52 x53 x54 x55 x56 x57 x58 x59 x60 x61 x62 x63 x64 x65 x66 x67 x68 x69 x70 x71 x72 x73 x74 x75 x76 x77 x78 x79 x80 x81 x82 x83 x84 x85 x86 x87 x88 x89 x90 x91 x92 x93 x94 x95 x96 x97 x98 x99 x100 x101 x102 x103 x104 x105 x106 x107 x108 x109 x110 x111 x112 x113 x114 x115 x116 x117 x118 x119 x120 x121 x122 x123 x124 x125 x126 x127 x128 x129 x130 x131 x132 x133 x134 x135 x136 x137 x138 x139 x140 x141 x142 x143 x144 x145 x146 x147 x148 x149 x150 x151 x152 x153 x154 x155 x156 x157 x158 x159 x160 x161 x162 x163 x164 x165 x166 x167 x168 x169 x170 x171 x172 x173 x174 x175 x176 x177 x178 x179 x180 x181 x182 x183 x184 x185 x186 x187
set_option maxRecDepth 1000000 in
set_option maxHeartbeats 16000000 in
theorem mr_c13_wp {Q : Exit → Act → World → Prop} {w : World} {cl : List Con} {c j b o E : Nat} {wo : World} {sz : Int} {rl : List Rel} {A B : Option Addr} {d : Nat} {nm : ByteArray} {v : Int} (hp0 : wo.heap[w.heap.size]? = some (.cells #[.int .i64 sz, .slice A cl.length c, .slice B rl.length d] 25 (0, 0))) (hpf : wo.heap[w.heap.size + 1]? = some (.cells #[.int .i64 0, .int .i64 0] 27 (0, 0))) (hpc : wo.heap[E]? = some (.cells #[.string nm, .int .i64 v] 44 (0, 0))) (hN : ∀ a', Frm 188 [(1, .pointer (some ⟨w.heap.size, 0, none⟩)), (2, .pointer (some ⟨w.heap.size + 1, 0, none⟩)), (35, .slice (some ⟨b, o, none⟩) cl.length c), (36, .int .i64 (cl.length : Nat)), (37, .int .i64 (j : Nat)), (3, .int .i64 (j : Nat)), (4, .pointer (some ⟨E, 0, none⟩)), (5, .int .i64 0), (69, .bool (badV sz v))] a' → Q .normal a' wo) : ∀ ac, Frm 188 [(1, .pointer (some ⟨w.heap.size, 0, none⟩)), (2, .pointer (some ⟨w.heap.size + 1, 0, none⟩)), (35, .slice (some ⟨b, o, none⟩) cl.length c), (36, .int .i64 (cl.length : Nat)), (37, .int .i64 (j : Nat)), (3, .int .i64 (j : Nat)), (4, .pointer (some ⟨E, 0, none⟩)), (5, .int .i64 0)] ac → Code.wp Tryd.prog c_mr_c13 Q ac wo := by
  refine open_mr_c13 (P := fun a => Code.wp Tryd.prog c_mr_c13 Q a wo) ?_
  intro x0 x6 x7 x8 x9 x10 x11 x12 x13 x14 x15 x16 x17 x18 x19 x20 x21 x22 x23 x24 x25 x26 x27 x28 x29 x30 x31 x32 x33 x34 x38 x39 x40 x41 x42 x43 x44 x45 x46 x47 x48 x49 x50 x51 x52 x53 x54 x55 x56 x57 x58 x59 x60 x61 x62 x63 x64 x65 x66 x67 x68 x69 x70 x71 x72 x73 x74 x75 x76 x77 x78 x79 x80 x81 x82 x83 x84 x85 x86 x87 x88 x89 x90 x91 x92 x93 x94 x95 x96 x97 x98 x99 x100 x101 x102 x103 x104 x105 x106 x107 x108 x109 x110 x111 x112 x113 x114 x115 x116 x117 x118 x119 x120 x121 x122 x123 x124 x125 x126 x127 x128 x129 x130 x131 x132 x133 x134 x135 x136 x137 x138 x139 x140 x141 x142 x143 x144 x145 x146 x147 x148 x149 x150 x151 x152 x153 x154 x155 x156 x157 x158 x159 x160 x161 x162 x163 x164 x165 x166 x167 x168 x169 x170 x171 x172 x173 x174 x175 x176 x177 x178 x179 x180 x181 x182 x183 x184 x185 x186 x187
  conv => arg 2; whnf
  have HN := Lib.hid hN
  clear hN
  have p0 := hp0
  have pf := hpf
  have pc := hpc
  clear hp0 hpf hpc
  have p0_0 := cv0 p0
  have p0_1 := cv1 p0
  have p0_2 := cv2 p0
  have p0_l := lt_heap p0
  have P0 := Lib.hid p0
  clear p0
  have pf_0 := cv0 pf
  have pf_1 := cv1 pf
  have pf_l := lt_heap pf
  have PF := Lib.hid pf
  clear pf
  have pc_0 := cv0 pc
  have pc_1 := cv1 pc
  have pc_l := lt_heap pc
  have PC := Lib.hid pc
  clear pc
  by_cases hv : v < 0 ∨ sz ≤ v
  · have hbv : badV sz v = true := by simp only [badV, decide_eq_true_eq]; exact hv
    have hv2 : v < 0 ∨ (¬ v < 0 ∧ sz ≤ v) := by omega
    rw [hbv] at HN
    clear hv hbv
    rcases hv2 with q5 | ⟨q5, q6⟩
    all_goals
      go_wp2_with fail
      exact HN.out _ (id ⟨rfl, rfl, rfl, rfl, rfl, rfl, rfl, rfl, rfl, rfl, rfl, trivial⟩)
  · have hbv : badV sz v = false := by simp only [badV, decide_eq_false_iff_not]; exact hv
    have q5 : ¬ v < 0 := by omega
    have q6 : ¬ sz ≤ v := by omega
    rw [hbv] at HN
    clear hv hbv
    go_wp2_with fail
    exact HN.out _ (id ⟨rfl, rfl, rfl, rfl, rfl, rfl, rfl, rfl, rfl, rfl, rfl, trivial⟩)
noncomputable def c_mr_ccode : Code := sub [1, 1, 1, 0, 1, 0, 0, 1, 1, 0, 0, 1, 1, 0] (Tryd.f8.body.getD .skip)
theorem mr_ccode_wp {Q : Exit → Act → World → Prop} {w : World} {cl : List Con} {c j b o E : Nat} {wo : World} {sz : Int} {rl : List Rel} {B : Option Addr} {d : Nat} {nm : ByteArray} {v : Int} {pv : Option Con} (hj : j < cl.length) (hn : nm.size ≤ maxLen) (hb : b < wo.heap.size) (hp0 : wo.heap[w.heap.size]? = some (.cells #[.int .i64 sz, .slice (some ⟨b, o, none⟩) cl.length c, .slice B rl.length d] 25 (0, 0))) (hpf : wo.heap[w.heap.size + 1]? = some (.cells #[.int .i64 0, .int .i64 0] 27 (0, 0))) (hpc : wo.heap[E]? = some (.cells #[.string nm, .int .i64 v] 44 (0, 0))) (hcl : cl.length ≤ 300) (hpv : ∀ p, pv = some p → ∃ i, j = i + 1 ∧ wo.cell? ⟨b, o + i * 2, none⟩ = some (.string p.nm)) (hpv0 : pv = none → j = 0)
    (hN : ∀ a' wx, Frm 188 [(1, .pointer (some ⟨w.heap.size, 0, none⟩)), (2, .pointer (some ⟨w.heap.size + 1, 0, none⟩)), (35, .slice (some ⟨b, o, none⟩) cl.length c), (36, .int .i64 (cl.length : Nat)), (37, .int .i64 (j : Nat)), (3, .int .i64 (j : Nat)), (4, .pointer (some ⟨E, 0, none⟩)), (5, .int .i64 (conCode sz pv ⟨nm, v⟩ : Nat))] a' → (wx.heap = wo.heap ∧ Below wo.heap.size wo wx) → Q .normal a' wx) : ∀ ac, Frm 188 [(1, .pointer (some ⟨w.heap.size, 0, none⟩)), (2, .pointer (some ⟨w.heap.size + 1, 0, none⟩)), (35, .slice (some ⟨b, o, none⟩) cl.length c), (36, .int .i64 (cl.length : Nat)), (37, .int .i64 (j : Nat)), (3, .int .i64 (j : Nat)), (4, .pointer (some ⟨E, 0, none⟩)), (5, .int .i64 0)] ac → Code.wp Tryd.prog c_mr_ccode Q ac wo := by
  intro a0 hf0
  conv => arg 2; whnf
  refine wp_seq ?_
  refine mr_c9_wp hn hpc (fun a1 h1 => ?_) a0 hf0
  have h1d : Frm 188 [(1, .pointer (some ⟨w.heap.size, 0, none⟩)), (2, .pointer (some ⟨w.heap.size + 1, 0, none⟩)), (35, .slice (some ⟨b, o, none⟩) cl.length c), (36, .int .i64 (cl.length : Nat)), (37, .int .i64 (j : Nat)), (3, .int .i64 (j : Nat)), (4, .pointer (some ⟨E, 0, none⟩)), (5, .int .i64 0)] a1 := have h := h1; ⟨h.1, h.2.1, h.2.2.1, h.2.2.2.1, h.2.2.2.2.1, h.2.2.2.2.2.1, h.2.2.2.2.2.2.1, h.2.2.2.2.2.2.2.1, h.2.2.2.2.2.2.2.2.1, h.2.2.2.2.2.2.2.2.2.1, trivial⟩
  cases hok : okName nm with
  | false =>
    refine wp_cond_true ((h1.eval (k := 45) (v := .bool (!okName nm)) (by simp)).trans (by rw [hok]; rfl)) ?_
    refine mr_c10_wp (fun a2 h2 => hN a2 wo ?_ ⟨rfl, Below.refl _ _⟩) a1 h1d
    rw [show conCode sz pv ⟨nm, v⟩ = 10 by unfold conCode; rw [if_pos hok]]
    exact h2
  | true =>
    refine wp_cond_false ((h1.eval (k := 45) (v := .bool (!okName nm)) (by simp)).trans (by rw [hok]; rfl)) ?_
    refine wp_seq ?_
    refine mr_c11_wp hj hb hp0 hpf hpc hcl hpv hpv0 (fun a2 w2 h2 e2 => ?_) a1 h1d
    have h2d : Frm 188 [(1, .pointer (some ⟨w.heap.size, 0, none⟩)), (2, .pointer (some ⟨w.heap.size + 1, 0, none⟩)), (35, .slice (some ⟨b, o, none⟩) cl.length c), (36, .int .i64 (cl.length : Nat)), (37, .int .i64 (j : Nat)), (3, .int .i64 (j : Nat)), (4, .pointer (some ⟨E, 0, none⟩)), (5, .int .i64 0)] a2 := have h := h2; ⟨h.1, h.2.1, h.2.2.1, h.2.2.2.1, h.2.2.2.2.1, h.2.2.2.2.2.1, h.2.2.2.2.2.2.1, h.2.2.2.2.2.2.2.1, h.2.2.2.2.2.2.2.2.1, h.2.2.2.2.2.2.2.2.2.1, trivial⟩
    cases hany : (pv.any fun p => decide (0 ≤ cmpS p.nm nm)) with
    | true =>
      refine wp_cond_true ((h2.eval (k := 59) (v := .bool (pv.any fun p => decide (0 ≤ cmpS p.nm nm))) (by simp)).trans (by rw [hany])) ?_
      refine mr_c12_wp (fun a3 h3 => hN a3 w2 ?_ e2) a2 h2d
      rw [show conCode sz pv ⟨nm, v⟩ = 13 by unfold conCode; rw [if_neg (by rw [hok]; decide), if_pos hany]]
      exact h3
    | false =>
      refine wp_cond_false ((h2.eval (k := 59) (v := .bool (pv.any fun p => decide (0 ≤ cmpS p.nm nm))) (by simp)).trans (by rw [hany])) ?_
      refine wp_seq ?_
      refine mr_c13_wp (wo := w2) (sz := sz) (by rw [e2.1]; exact hp0) (by rw [e2.1]; exact hpf) (by rw [e2.1]; exact hpc) (fun a3 h3 => ?_) a2 h2d
      have h3d : Frm 188 [(1, .pointer (some ⟨w.heap.size, 0, none⟩)), (2, .pointer (some ⟨w.heap.size + 1, 0, none⟩)), (35, .slice (some ⟨b, o, none⟩) cl.length c), (36, .int .i64 (cl.length : Nat)), (37, .int .i64 (j : Nat)), (3, .int .i64 (j : Nat)), (4, .pointer (some ⟨E, 0, none⟩)), (5, .int .i64 0)] a3 := have h := h3; ⟨h.1, h.2.1, h.2.2.1, h.2.2.2.1, h.2.2.2.2.1, h.2.2.2.2.2.1, h.2.2.2.2.2.2.1, h.2.2.2.2.2.2.2.1, h.2.2.2.2.2.2.2.2.1, h.2.2.2.2.2.2.2.2.2.1, trivial⟩
      cases hbv : badV sz v with
      | true =>
        refine wp_cond_true ((h3.eval (k := 69) (v := .bool (badV sz v)) (by simp)).trans (by rw [hbv])) ?_
        refine mr_c14_wp (fun a4 h4 => hN a4 w2 ?_ e2) a3 h3d
        rw [show conCode sz pv ⟨nm, v⟩ = 3 by unfold conCode; rw [if_neg (by rw [hok]; decide), if_neg (by rw [hany]; decide), if_pos hbv]]
        exact h4
      | false =>
        refine wp_cond_false ((h3.eval (k := 69) (v := .bool (badV sz v)) (by simp)).trans (by rw [hbv])) ?_
        refine wp_skip (hN a3 w2 ?_ e2)
        rw [show conCode sz pv ⟨nm, v⟩ = 0 by unfold conCode; rw [if_neg (by rw [hok]; decide), if_neg (by rw [hany]; decide), if_neg (by rw [hbv]; decide)]]
        exact h3d
noncomputable def c_mr_cret : Code := sub [1, 1, 1, 0, 1, 0, 0, 1, 1, 0, 0, 1, 1, 1] (Tryd.f8.body.getD .skip)
set_option maxRecDepth 1000000 in
theorem open_mr_cret {P : Act → Prop} {v0 v1 v2 v3 v4 v5 v6 v7 : Value} (h : ∀ x0 x6 x7 x8 x9 x10 x11 x12 x13 x14 x15 x16 x17 x18 x19 x20 x21 x22 x23 x24 x25 x26 x27 x28 x29 x30 x31 x32 x33 x34 x38 x39 x40 x41 x42 x43 x44 x45 x46 x47 x48 x49 x50 x51 x52 x53 x54 x55 x56 x57 x58 x59 x60 x61 x62 x63 x64 x65 x66 x67 x68 x69 x70 x71 x72 x73 x74 x75 x76 x77 x78 x79 x80 x81 x82 x83 x84 x85 x86 x87 x88 x89 x90 x91 x92 x93 x94 x95 x96 x97 x98 x99 x100 x101 x102 x103 x104 x105 x106 x107 x108 x109 x110 x111 x112 x113 x114 x115 x116 x117 x118 x119 x120 x121 x122 x123 x124 x125 x126 x127 x128 x129 x130 x131 x132 x133 x134 x135 x136 x137 x138 x139 x140 x141 x142 x143 x144 x145 x146 x147 x148 x149 x150 x151 x152 x153 x154 x155 x156 x157 x158 x159 x160 x161 x162 x163 x164 x165 x166 x167 x168 x169 x170 x171 x172 x173 x174 x175 x176 x177 x178 x179 x180 x181 x182 x183 x184 x185 x186 x187 : Value, P ⟨(x0 :: v0 :: v1 :: v5 :: v6 :: v7 :: x6 :: x7 :: x8 :: x9 :: x10 :: x11 :: x12 :: x13 :: x14 :: x15 :: x16 :: x17 :: x18 :: x19 :: x20 :: x21 :: x22 :: x23 :: x24 :: x25 :: x26 :: x27 :: x28 :: x29 :: x30 :: x31 :: x32 :: x33 :: x34 :: v2 :: v3 :: v4 :: x38 :: x39 :: x40 :: x41 :: x42 :: x43 :: x44 :: x45 :: x46 :: x47 :: x48 :: x49 :: x50 :: x51 :: x52 :: x53 :: x54 :: x55 :: x56 :: x57 :: x58 :: x59 :: x60 :: x61 :: x62 :: x63 :: x64 :: x65 :: x66 :: x67 :: x68 :: x69 :: x70 :: x71 :: x72 :: x73 :: x74 :: x75 :: x76 :: x77 :: x78 :: x79 :: x80 :: x81 :: x82 :: x83 :: x84 :: x85 :: x86 :: x87 :: x88 :: x89 :: x90 :: x91 :: x92 :: x93 :: x94 :: x95 :: x96 :: x97 :: x98 :: x99 :: x100 :: x101 :: x102 :: x103 :: x104 :: x105 :: x106 :: x107 :: x108 :: x109 :: x110 :: x111 :: x112 :: x113 :: x114 :: x115 :: x116 :: x117 :: x118 :: x119 :: x120 :: x121 :: x122 :: x123 :: x124 :: x125 :: x126 :: x127 :: x128 :: x129 :: x130 :: x131 :: x132 :: x133 :: x134 :: x135 :: x136 :: x137 :: x138 :: x139 :: x140 :: x141 :: x142 :: x143 :: x144 :: x145 :: x146 :: x147 :: x148 :: x149 :: x150 :: x151 :: x152 :: x153 :: x154 :: x155 :: x156 :: x157 :: x158 :: x159 :: x160 :: x161 :: x162 :: x163 :: x164 :: x165 :: x166 :: x167 :: x168 :: x169 :: x170 :: x171 :: x172 :: x173 :: x174 :: x175 :: x176 :: x177 :: x178 :: x179 :: x180 :: x181 :: x182 :: x183 :: x184 :: x185 :: x186 :: x187 :: []).toArray, []⟩) : ∀ a, Frm 188 [(1, v0), (2, v1), (35, v2), (36, v3), (37, v4), (3, v5), (4, v6), (5, v7)] a → P a := by
  rintro a ⟨h1, h2, e0, e1, e2, e3, e4, e5, e6, e7, _⟩
  revert e0 e1 e2 e3 e4 e5 e6 e7
  refine frame_mr (P := fun a => a.tmps.toList[1]? = some v0 → a.tmps.toList[2]? = some v1 → a.tmps.toList[35]? = some v2 → a.tmps.toList[36]? = some v3 → a.tmps.toList[37]? = some v4 → a.tmps.toList[3]? = some v5 → a.tmps.toList[4]? = some v6 → a.tmps.toList[5]? = some v7 → P a) ?_ a h1 h2
  intro x0 x1 x2 x3 x4 x5 x6 x7 x8 x9 x10 x11 x12 x13 x14 x15 x16 x17 x18 x19 x20 x21 x22 x23 x24 x25 x26 x27 x28 x29 x30 x31 x32 x33 x34 x35 x36 x37 x38 x39 x40 x41 x42 x43 x44 x45 x46 x47 x48 x49 x50 x51 x52 x53 x54 x55 x56 x57 x58 x59 x60 x61 x62 x63 x64 x65 x66 x67 x68 x69 x70 x71 x72 x73 x74 x75 x76 x77 x78 x79 x80 x81 x82 x83 x84 x85 x86 x87 x88 x89 x90 x91 x92 x93 x94 x95 x96 x97 x98 x99 x100 x101 x102 x103 x104 x105 x106 x107 x108 x109 x110 x111 x112 x113 x114 x115 x116 x117 x118 x119 x120 x121 x122 x123 x124 x125 x126 x127 x128 x129 x130 x131 x132 x133 x134 x135 x136 x137 x138 x139 x140 x141 x142 x143 x144 x145 x146 x147 x148 x149 x150 x151 x152 x153 x154 x155 x156 x157 x158 x159 x160 x161 x162 x163 x164 x165 x166 x167 x168 x169 x170 x171 x172 x173 x174 x175 x176 x177 x178 x179 x180 x181 x182 x183 x184 x185 x186 x187 e0 e1 e2 e3 e4 e5 e6 e7
  obtain rfl : x1 = v0 := Option.some.inj e0
  obtain rfl : x2 = v1 := Option.some.inj e1
  obtain rfl : x35 = v2 := Option.some.inj e2
  obtain rfl : x36 = v3 := Option.some.inj e3
  obtain rfl : x37 = v4 := Option.some.inj e4
  obtain rfl : x3 = v5 := Option.some.inj e5
  obtain rfl : x4 = v6 := Option.some.inj e6
  obtain rfl : x5 = v7 := Option.some.inj e7
  exact h x0 x6 x7 x8 x9 x10 x11 x12 x13 x14 x15 x16 x17 x18 x19 x20 x21 x22 x23 x24 x25 x26 x27 x28 x29 x30 x31 x32 x33 x34 x38 x39 x40 x41 x42 x43 x44 x45 x46 x47 x48 x49 x50 x51 x52 x53 x54 x55 x56 x57 x58 x59 x60 x61 x62 x63 x64 x65 x66 x67 x68 x69 x70 x71 x72 x73 x74 x75 x76 x77 x78 x79 x80 x81 x82 x83 x84 x85 x86 x87 x88 x89 x90 x91 x92 x93 x94 x95 x96 x97 x98 x99 x100 x101 x102 x103 x104 x105 x106 x107 x108 x109 x110 x111 x112 x113 x114 x115 x116 x117 x118 x119 x120 x121 x122 x123 x124 x125 x126 x127 x128 x129 x130 x131 x132 x133 x134 x135 x136 x137 x138 x139 x140 x141 x142 x143 x144 x145 x146 x147 x148 x149 x150 x151 x152 x153 x154 x155 x156 x157 x158 x159 x160 x161 x162 x163 x164 x165 x166 x167 x168 x169 x170 x171 x172 x173 x174 x175 x176 x177 x178 x179 x180 x181 x182 x183 x184 x185 x186 x187
set_option maxRecDepth 1000000 in
set_option maxHeartbeats 16000000 in
theorem mr_cret_wp {Q : Exit → Act → World → Prop} {w wo : World} {cl : List Con} {c j b o E k : Nat} (hpf : wo.heap[w.heap.size + 1]? = some (.cells #[.int .i64 0, .int .i64 0] 27 (0, 0))) (hB : Below w.heap.size w wo) (hR : k ≠ 0 → ∀ a' w', Frm 188 [(2, .pointer (some ⟨w.heap.size + 1, 0, none⟩))] a' → w'.heap[w.heap.size + 1]? = some (.cells #[.int .i64 (k : Nat), .int .i64 (j : Nat)] 27 (0, 0)) → Below w.heap.size w w' → Q .ret a' w') (hN : k = 0 → ∀ a', Frm 188 [(1, .pointer (some ⟨w.heap.size, 0, none⟩)), (2, .pointer (some ⟨w.heap.size + 1, 0, none⟩)), (35, .slice (some ⟨b, o, none⟩) cl.length c), (36, .int .i64 (cl.length : Nat)), (37, .int .i64 (j : Nat))] a' → Q .normal a' wo) : ∀ ac, Frm 188 [(1, .pointer (some ⟨w.heap.size, 0, none⟩)), (2, .pointer (some ⟨w.heap.size + 1, 0, none⟩)), (35, .slice (some ⟨b, o, none⟩) cl.length c), (36, .int .i64 (cl.length : Nat)), (37, .int .i64 (j : Nat)), (3, .int .i64 (j : Nat)), (4, .pointer (some ⟨E, 0, none⟩)), (5, .int .i64 (k : Nat))] ac → Code.wp Tryd.prog c_mr_cret Q ac wo := by
  refine open_mr_cret (P := fun a => Code.wp Tryd.prog c_mr_cret Q a wo) ?_
  intro x0 x6 x7 x8 x9 x10 x11 x12 x13 x14 x15 x16 x17 x18 x19 x20 x21 x22 x23 x24 x25 x26 x27 x28 x29 x30 x31 x32 x33 x34 x38 x39 x40 x41 x42 x43 x44 x45 x46 x47 x48 x49 x50 x51 x52 x53 x54 x55 x56 x57 x58 x59 x60 x61 x62 x63 x64 x65 x66 x67 x68 x69 x70 x71 x72 x73 x74 x75 x76 x77 x78 x79 x80 x81 x82 x83 x84 x85 x86 x87 x88 x89 x90 x91 x92 x93 x94 x95 x96 x97 x98 x99 x100 x101 x102 x103 x104 x105 x106 x107 x108 x109 x110 x111 x112 x113 x114 x115 x116 x117 x118 x119 x120 x121 x122 x123 x124 x125 x126 x127 x128 x129 x130 x131 x132 x133 x134 x135 x136 x137 x138 x139 x140 x141 x142 x143 x144 x145 x146 x147 x148 x149 x150 x151 x152 x153 x154 x155 x156 x157 x158 x159 x160 x161 x162 x163 x164 x165 x166 x167 x168 x169 x170 x171 x172 x173 x174 x175 x176 x177 x178 x179 x180 x181 x182 x183 x184 x185 x186 x187
  conv => arg 2; whnf
  have HR := Lib.hid hR
  have HN := Lib.hid hN
  have HB := Lib.hid hB
  clear hR hN hB
  have pf := hpf
  clear hpf
  have pf_0 := cv0 pf
  have pf_1 := cv1 pf
  have pf_f0 := free_heap pf 0
  have pf_f1 := free_heap pf 1
  have pf_l := lt_heap pf
  have PF := Lib.hid pf
  clear pf
  by_cases hk : k = 0
  · have q1 : ((k : Int) != 0) = false := by rw [hk]; rfl
    replace HN := Lib.hid (HN.out hk)
    clear hk
    go_wp2_with fail
    exact HN.out _ (id ⟨rfl, rfl, rfl, rfl, rfl, rfl, rfl, trivial⟩)
  · have q1 : ((k : Int) != 0) = true := bne_iff_ne.2 (by omega)
    replace HR := Lib.hid (HR.out hk)
    clear hk
    go_wp2_with fail
    exact HR.out _ _ (id ⟨rfl, rfl, rfl, trivial⟩) (at2 PF.out) (below2 HB.out (by omega))
noncomputable def c_mr_cinc : Code := sub [1, 1, 1, 0, 1, 0, 0, 1, 1, 1] (Tryd.f8.body.getD .skip)
set_option maxRecDepth 1000000 in
theorem open_mr_cinc {P : Act → Prop} {v0 v1 v2 v3 v4 : Value} (h : ∀ x0 x3 x4 x5 x6 x7 x8 x9 x10 x11 x12 x13 x14 x15 x16 x17 x18 x19 x20 x21 x22 x23 x24 x25 x26 x27 x28 x29 x30 x31 x32 x33 x34 x38 x39 x40 x41 x42 x43 x44 x45 x46 x47 x48 x49 x50 x51 x52 x53 x54 x55 x56 x57 x58 x59 x60 x61 x62 x63 x64 x65 x66 x67 x68 x69 x70 x71 x72 x73 x74 x75 x76 x77 x78 x79 x80 x81 x82 x83 x84 x85 x86 x87 x88 x89 x90 x91 x92 x93 x94 x95 x96 x97 x98 x99 x100 x101 x102 x103 x104 x105 x106 x107 x108 x109 x110 x111 x112 x113 x114 x115 x116 x117 x118 x119 x120 x121 x122 x123 x124 x125 x126 x127 x128 x129 x130 x131 x132 x133 x134 x135 x136 x137 x138 x139 x140 x141 x142 x143 x144 x145 x146 x147 x148 x149 x150 x151 x152 x153 x154 x155 x156 x157 x158 x159 x160 x161 x162 x163 x164 x165 x166 x167 x168 x169 x170 x171 x172 x173 x174 x175 x176 x177 x178 x179 x180 x181 x182 x183 x184 x185 x186 x187 : Value, P ⟨(x0 :: v0 :: v1 :: x3 :: x4 :: x5 :: x6 :: x7 :: x8 :: x9 :: x10 :: x11 :: x12 :: x13 :: x14 :: x15 :: x16 :: x17 :: x18 :: x19 :: x20 :: x21 :: x22 :: x23 :: x24 :: x25 :: x26 :: x27 :: x28 :: x29 :: x30 :: x31 :: x32 :: x33 :: x34 :: v2 :: v3 :: v4 :: x38 :: x39 :: x40 :: x41 :: x42 :: x43 :: x44 :: x45 :: x46 :: x47 :: x48 :: x49 :: x50 :: x51 :: x52 :: x53 :: x54 :: x55 :: x56 :: x57 :: x58 :: x59 :: x60 :: x61 :: x62 :: x63 :: x64 :: x65 :: x66 :: x67 :: x68 :: x69 :: x70 :: x71 :: x72 :: x73 :: x74 :: x75 :: x76 :: x77 :: x78 :: x79 :: x80 :: x81 :: x82 :: x83 :: x84 :: x85 :: x86 :: x87 :: x88 :: x89 :: x90 :: x91 :: x92 :: x93 :: x94 :: x95 :: x96 :: x97 :: x98 :: x99 :: x100 :: x101 :: x102 :: x103 :: x104 :: x105 :: x106 :: x107 :: x108 :: x109 :: x110 :: x111 :: x112 :: x113 :: x114 :: x115 :: x116 :: x117 :: x118 :: x119 :: x120 :: x121 :: x122 :: x123 :: x124 :: x125 :: x126 :: x127 :: x128 :: x129 :: x130 :: x131 :: x132 :: x133 :: x134 :: x135 :: x136 :: x137 :: x138 :: x139 :: x140 :: x141 :: x142 :: x143 :: x144 :: x145 :: x146 :: x147 :: x148 :: x149 :: x150 :: x151 :: x152 :: x153 :: x154 :: x155 :: x156 :: x157 :: x158 :: x159 :: x160 :: x161 :: x162 :: x163 :: x164 :: x165 :: x166 :: x167 :: x168 :: x169 :: x170 :: x171 :: x172 :: x173 :: x174 :: x175 :: x176 :: x177 :: x178 :: x179 :: x180 :: x181 :: x182 :: x183 :: x184 :: x185 :: x186 :: x187 :: []).toArray, []⟩) : ∀ a, Frm 188 [(1, v0), (2, v1), (35, v2), (36, v3), (37, v4)] a → P a := by
  rintro a ⟨h1, h2, e0, e1, e2, e3, e4, _⟩
  revert e0 e1 e2 e3 e4
  refine frame_mr (P := fun a => a.tmps.toList[1]? = some v0 → a.tmps.toList[2]? = some v1 → a.tmps.toList[35]? = some v2 → a.tmps.toList[36]? = some v3 → a.tmps.toList[37]? = some v4 → P a) ?_ a h1 h2
  intro x0 x1 x2 x3 x4 x5 x6 x7 x8 x9 x10 x11 x12 x13 x14 x15 x16 x17 x18 x19 x20 x21 x22 x23 x24 x25 x26 x27 x28 x29 x30 x31 x32 x33 x34 x35 x36 x37 x38 x39 x40 x41 x42 x43 x44 x45 x46 x47 x48 x49 x50 x51 x52 x53 x54 x55 x56 x57 x58 x59 x60 x61 x62 x63 x64 x65 x66 x67 x68 x69 x70 x71 x72 x73 x74 x75 x76 x77 x78 x79 x80 x81 x82 x83 x84 x85 x86 x87 x88 x89 x90 x91 x92 x93 x94 x95 x96 x97 x98 x99 x100 x101 x102 x103 x104 x105 x106 x107 x108 x109 x110 x111 x112 x113 x114 x115 x116 x117 x118 x119 x120 x121 x122 x123 x124 x125 x126 x127 x128 x129 x130 x131 x132 x133 x134 x135 x136 x137 x138 x139 x140 x141 x142 x143 x144 x145 x146 x147 x148 x149 x150 x151 x152 x153 x154 x155 x156 x157 x158 x159 x160 x161 x162 x163 x164 x165 x166 x167 x168 x169 x170 x171 x172 x173 x174 x175 x176 x177 x178 x179 x180 x181 x182 x183 x184 x185 x186 x187 e0 e1 e2 e3 e4
  obtain rfl : x1 = v0 := Option.some.inj e0
  obtain rfl : x2 = v1 := Option.some.inj e1
  obtain rfl : x35 = v2 := Option.some.inj e2
  obtain rfl : x36 = v3 := Option.some.inj e3
  obtain rfl : x37 = v4 := Option.some.inj e4
  exact h x0 x3 x4 x5 x6 x7 x8 x9 x10 x11 x12 x13 x14 x15 x16 x17 x18 x19 x20 x21 x22 x23 x24 x25 x26 x27 x28 x29 x30 x31 x32 x33 x34 x38 x39 x40 x41 x42 x43 x44 x45 x46 x47 x48 x49 x50 x51 x52 x53 x54 x55 x56 x57 x58 x59 x60 x61 x62 x63 x64 x65 x66 x67 x68 x69 x70 x71 x72 x73 x74 x75 x76 x77 x78 x79 x80 x81 x82 x83 x84 x85 x86 x87 x88 x89 x90 x91 x92 x93 x94 x95 x96 x97 x98 x99 x100 x101 x102 x103 x104 x105 x106 x107 x108 x109 x110 x111 x112 x113 x114 x115 x116 x117 x118 x119 x120 x121 x122 x123 x124 x125 x126 x127 x128 x129 x130 x131 x132 x133 x134 x135 x136 x137 x138 x139 x140 x141 x142 x143 x144 x145 x146 x147 x148 x149 x150 x151 x152 x153 x154 x155 x156 x157 x158 x159 x160 x161 x162 x163 x164 x165 x166 x167 x168 x169 x170 x171 x172 x173 x174 x175 x176 x177 x178 x179 x180 x181 x182 x183 x184 x185 x186 x187
set_option maxRecDepth 1000000 in
set_option maxHeartbeats 16000000 in
theorem mr_cinc_wp {Q : Exit → Act → World → Prop} {w wo : World} {cl : List Con} {c j b o : Nat} (hj : j ≤ 300) (hN : ∀ a', Frm 188 [(1, .pointer (some ⟨w.heap.size, 0, none⟩)), (2, .pointer (some ⟨w.heap.size + 1, 0, none⟩)), (35, .slice (some ⟨b, o, none⟩) cl.length c), (36, .int .i64 (cl.length : Nat)), (37, .int .i64 (j + 1 : Nat))] a' → Q .normal a' wo) : ∀ ac, Frm 188 [(1, .pointer (some ⟨w.heap.size, 0, none⟩)), (2, .pointer (some ⟨w.heap.size + 1, 0, none⟩)), (35, .slice (some ⟨b, o, none⟩) cl.length c), (36, .int .i64 (cl.length : Nat)), (37, .int .i64 (j : Nat))] ac → Code.wp Tryd.prog c_mr_cinc Q ac wo := by
  refine open_mr_cinc (P := fun a => Code.wp Tryd.prog c_mr_cinc Q a wo) ?_
  intro x0 x3 x4 x5 x6 x7 x8 x9 x10 x11 x12 x13 x14 x15 x16 x17 x18 x19 x20 x21 x22 x23 x24 x25 x26 x27 x28 x29 x30 x31 x32 x33 x34 x38 x39 x40 x41 x42 x43 x44 x45 x46 x47 x48 x49 x50 x51 x52 x53 x54 x55 x56 x57 x58 x59 x60 x61 x62 x63 x64 x65 x66 x67 x68 x69 x70 x71 x72 x73 x74 x75 x76 x77 x78 x79 x80 x81 x82 x83 x84 x85 x86 x87 x88 x89 x90 x91 x92 x93 x94 x95 x96 x97 x98 x99 x100 x101 x102 x103 x104 x105 x106 x107 x108 x109 x110 x111 x112 x113 x114 x115 x116 x117 x118 x119 x120 x121 x122 x123 x124 x125 x126 x127 x128 x129 x130 x131 x132 x133 x134 x135 x136 x137 x138 x139 x140 x141 x142 x143 x144 x145 x146 x147 x148 x149 x150 x151 x152 x153 x154 x155 x156 x157 x158 x159 x160 x161 x162 x163 x164 x165 x166 x167 x168 x169 x170 x171 x172 x173 x174 x175 x176 x177 x178 x179 x180 x181 x182 x183 x184 x185 x186 x187
  conv => arg 2; whnf
  have HN := Lib.hid hN
  clear hN
  have hw : ((j : Int) + 1) = ((j + 1 : Nat) : Int) := by omega
  have HW := Lib.hid hw
  clear hw
  go_wp2_with fail
  rw [HW.out]
  exact HN.out _ (id ⟨rfl, rfl, rfl, rfl, rfl, rfl, rfl, trivial⟩)
noncomputable def c_mr_cloop : Code := sub [1, 1, 1, 0, 1, 0] (Tryd.f8.body.getD .skip)
set_option maxRecDepth 100000 in
theorem mr_cloop_wp {Q : Exit → Act → World → Prop} {w wi : World} {S : Nat → Prop} {sz : Int} {cl : List Con} {rl : List Rel} {A B : Option Addr} {c d : Nat} (hcl : cl.length ≤ 300) (hC : conRep.Sl w S (.slice A cl.length c) cl) (hS : ∀ b, S b → b < w.heap.size) (h0 : wi.heap[w.heap.size]? = some (.cells #[.int .i64 sz, .slice A cl.length c, .slice B rl.length d] 25 (0, 0)) ∧ wi.heap[w.heap.size + 1]? = some (.cells #[.int .i64 0, .int .i64 0] 27 (0, 0)) ∧ Below w.heap.size w wi)
    (hR : ∀ (k j : Nat), k ≠ 0 → consF sz none 0 cl = (k, j) → ∀ a' w', Frm 188 [(2, .pointer (some ⟨w.heap.size + 1, 0, none⟩))] a' → w'.heap[w.heap.size + 1]? = some (.cells #[.int .i64 (k : Nat), .int .i64 (j : Nat)] 27 (0, 0)) → Below w.heap.size w w' → Q .ret a' w')
    (hX : (consF sz none 0 cl).1 = 0 → ∀ a' wx, Frm 188 [(1, .pointer (some ⟨w.heap.size, 0, none⟩)), (2, .pointer (some ⟨w.heap.size + 1, 0, none⟩))] a' → wx.heap[w.heap.size]? = some (.cells #[.int .i64 sz, .slice A cl.length c, .slice B rl.length d] 25 (0, 0)) ∧ wx.heap[w.heap.size + 1]? = some (.cells #[.int .i64 0, .int .i64 0] 27 (0, 0)) ∧ Below w.heap.size w wx → Q (.exit 0) a' wx) : ∀ ac, Frm 188 [(1, .pointer (some ⟨w.heap.size, 0, none⟩)), (2, .pointer (some ⟨w.heap.size + 1, 0, none⟩)), (35, .slice A cl.length c), (36, .int .i64 (cl.length : Nat)), (37, .int .i64 (0 : Nat))] ac → Code.wp Tryd.prog c_mr_cloop Q ac wi := by
  intro a0 hf0
  conv => arg 2; whnf
  refine wp_loopR (fun k a' w' => ∃ j : Nat, j + k = cl.length ∧ consF sz (prevOf cl j) j (cl.drop j) = consF sz none 0 cl ∧ w'.heap[w.heap.size]? = some (.cells #[.int .i64 sz, .slice A cl.length c, .slice B rl.length d] 25 (0, 0)) ∧ w'.heap[w.heap.size + 1]? = some (.cells #[.int .i64 0, .int .i64 0] 27 (0, 0)) ∧ Below w.heap.size w w' ∧ Frm 188 [(1, .pointer (some ⟨w.heap.size, 0, none⟩)), (2, .pointer (some ⟨w.heap.size + 1, 0, none⟩)), (35, .slice A cl.length c), (36, .int .i64 (cl.length : Nat)), (37, .int .i64 (j : Nat))] a') cl.length ⟨0, by omega, rfl, h0.1, h0.2.1, h0.2.2, hf0⟩ ?_
  rintro k a1 wr ⟨j, hk, hc, hp0, hpf, hB, hfr⟩
  refine wp_seq ?_
  refine mr_chead_wp (fun a2 h2 => ?_) a1 hfr
  have h2d : Frm 188 [(1, .pointer (some ⟨w.heap.size, 0, none⟩)), (2, .pointer (some ⟨w.heap.size + 1, 0, none⟩)), (35, .slice A cl.length c), (36, .int .i64 (cl.length : Nat)), (37, .int .i64 (j : Nat))] a2 := have h := h2; ⟨h.1, h.2.1, h.2.2.1, h.2.2.2.1, h.2.2.2.2.1, h.2.2.2.2.2.1, h.2.2.2.2.2.2.1, trivial⟩
  refine wp_seq ?_
  by_cases hjl : j < cl.length
  case neg =>
    refine wp_cond_false ((h2.eval (k := 38) (v := .bool (decide (j < cl.length))) (by simp)).trans (by rw [decide_eq_false hjl])) ?_
    have hz : (consF sz none 0 cl).1 = 0 := by rw [← hc, List.drop_eq_nil_of_le (by omega)]; rfl
    have h := h2
    exact wp_exit (hX hz a2 wr ⟨h.1, h.2.1, h.2.2.1, h.2.2.2.1, trivial⟩ ⟨hp0, hpf, hB⟩)
  refine wp_cond_true ((h2.eval (k := 38) (v := .bool (decide (j < cl.length))) (by simp)).trans (by rw [decide_eq_true hjl])) (wp_skip ?_)
  have hC2 := hC.keep (w' := wr) (S' := S) (fun b hb => hB.block b (hS b hb)) (fun _ h => h)
  rw [consF_step hjl] at hc
  obtain ⟨b, o, hA, hSb, e0, e1, hn⟩ := con_at hC2 hjl
  subst hA
  have hbl := hS b hSb
  have hbz := hB.size
  obtain ⟨⟨nm, v⟩, hv⟩ : ∃ x, cl[j] = x := ⟨_, rfl⟩
  rw [hv] at e0 e1 hn hc
  simp only at e0 e1 hn
  have hpv : ∀ p, prevOf cl j = some p → ∃ i, j = i + 1 ∧ wr.cell? ⟨b, o + i * 2, none⟩ = some (.string p.nm) := by
    intro p hp
    cases j with
    | zero => cases hp
    | succ i =>
      obtain ⟨b2, o2, hA2, _, f0, _⟩ := con_at hC2 (j := i) (by omega)
      simp only [Option.some.injEq, Addr.mk.injEq] at hA2
      obtain ⟨rfl, rfl, _⟩ := hA2
      refine ⟨i, rfl, ?_⟩
      have : cl[i]? = some p := hp
      rw [List.getElem?_eq_getElem (by omega)] at this
      rw [← Option.some.inj this]
      exact f0
  have hpv0 : prevOf cl j = none → j = 0 := by
    intro e
    cases j with
    | zero => rfl
    | succ i =>
      have h3 : cl[i]? = none := e
      rw [List.getElem?_eq_getElem (by omega)] at h3
      cases h3
  refine wp_seq ?_
  refine wp_block ?_
  refine wp_seq ?_
  refine mr_cbox_wp hjl (by omega) e0 e1 (fun a3 h3 => ?_) a2 h2d
  refine wp_seq ?_
  refine mr_c0_wp (fun a4 h4 => ?_) a3 h3
  refine wp_seq ?_
  have lw : w.heap.size < wr.heap.size := lt_heap hp0
  have lf : w.heap.size + 1 < wr.heap.size := lt_heap hpf
  refine mr_ccode_wp (sz := sz) (pv := prevOf cl j) hjl hn (by simp; omega) (heap_old lw hp0) (heap_old lf hpf) (heap_at rfl) hcl (fun p hp => ?_) hpv0 (fun a5 w5 h5 e5 => ?_) a4 h4
  · obtain ⟨i, h1, h2⟩ := hpv p hp
    exact ⟨i, h1, (cell_keep (heap_old (by omega) rfl) _).trans h2⟩
  have qf : w5.heap[w.heap.size + 1]? = some (.cells #[.int .i64 0, .int .i64 0] 27 (0, 0)) := by rw [e5.1]; exact heap_old lf hpf
  have qp : w5.heap[w.heap.size]? = some (.cells #[.int .i64 sz, .slice (some ⟨b, o, none⟩) cl.length c, .slice B rl.length d] 25 (0, 0)) := by rw [e5.1]; exact heap_old lw hp0
  have hB5 : Below w.heap.size w w5 := (hB.alloc (by omega) _).trans (e5.2.mono (by simp; omega))
  refine mr_cret_wp qf hB5 (fun hk0 a6 w6 h6 e6 hb6 => ?_) (fun hk0 a6 h6 => ?_) a5 h5
  · refine hR _ j hk0 ?_ a6 w6 h6 e6 hb6
    rw [← hc, if_neg hk0]
  · refine mr_cinc_wp (by omega) (fun a7 h7 => ?_) a6 h6
    rw [if_pos hk0] at hc
    exact ⟨cl.length - (j + 1), by omega, j + 1, by omega, hc, qp, qf, hB5, h7⟩

end Go.Proofs.YtnoceodmnjhljabDoor
