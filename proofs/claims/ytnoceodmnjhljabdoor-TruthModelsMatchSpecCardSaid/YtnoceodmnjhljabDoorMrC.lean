/-
  ModelFault by parts: a row.
-/
import Derived.Test.YtnoceodmnjhljabDoorCmp
import Derived.Test.YtnoceodmnjhljabDoorName
import Derived.Test.YtnoceodmnjhljabDoorTree
import Derived.Test.YtnoceodmnjhljabDoorMdAt
import Derived.Test.YtnoceodmnjhljabDoorMrB
import Derived.Deep.DeepCutAuto
import Derived.BigQuiet
namespace Go.Proofs.YtnoceodmnjhljabDoor
open Go Go.RowKit
set_option linter.unusedSimpArgs false
set_option linter.unusedVariables false

noncomputable def c_mr_r31 : Code := sub [1, 1, 1, 1, 0, 1, 0, 0, 1, 1, 0, 0, 1, 1, 1, 0, 1, 0, 0, 0, 0] (Tryd.f8.body.getD .skip)
set_option maxRecDepth 1000000 in
theorem open_mr_r31 {P : Act → Prop} {v0 v1 v2 v3 v4 v5 v6 v7 v8 : Value} (h : ∀ x0 x3 x4 x5 x9 x11 x12 x13 x14 x15 x16 x17 x18 x19 x20 x21 x22 x23 x24 x25 x26 x27 x28 x29 x30 x31 x32 x33 x34 x35 x36 x37 x38 x39 x40 x41 x42 x43 x44 x45 x46 x47 x48 x49 x50 x51 x52 x53 x54 x55 x56 x57 x58 x59 x60 x61 x62 x63 x64 x65 x66 x67 x68 x69 x70 x71 x72 x73 x74 x75 x76 x80 x81 x82 x83 x84 x85 x86 x87 x88 x89 x90 x91 x92 x93 x94 x95 x96 x97 x98 x99 x100 x101 x102 x103 x104 x105 x106 x107 x108 x109 x110 x111 x112 x113 x114 x115 x116 x117 x118 x119 x120 x121 x122 x123 x124 x125 x126 x127 x128 x129 x130 x131 x132 x133 x134 x135 x136 x137 x138 x139 x140 x141 x142 x143 x144 x145 x146 x147 x148 x149 x150 x151 x152 x153 x154 x155 x156 x157 x158 x159 x160 x161 x162 x163 x164 x165 x166 x167 x168 x169 x170 x171 x172 x173 x174 x175 x176 x177 x178 x179 x180 x181 x182 x183 x184 x185 x186 x187 : Value, P ⟨(x0 :: v0 :: v1 :: x3 :: x4 :: x5 :: v5 :: v6 :: v7 :: x9 :: v8 :: x11 :: x12 :: x13 :: x14 :: x15 :: x16 :: x17 :: x18 :: x19 :: x20 :: x21 :: x22 :: x23 :: x24 :: x25 :: x26 :: x27 :: x28 :: x29 :: x30 :: x31 :: x32 :: x33 :: x34 :: x35 :: x36 :: x37 :: x38 :: x39 :: x40 :: x41 :: x42 :: x43 :: x44 :: x45 :: x46 :: x47 :: x48 :: x49 :: x50 :: x51 :: x52 :: x53 :: x54 :: x55 :: x56 :: x57 :: x58 :: x59 :: x60 :: x61 :: x62 :: x63 :: x64 :: x65 :: x66 :: x67 :: x68 :: x69 :: x70 :: x71 :: x72 :: x73 :: x74 :: x75 :: x76 :: v2 :: v3 :: v4 :: x80 :: x81 :: x82 :: x83 :: x84 :: x85 :: x86 :: x87 :: x88 :: x89 :: x90 :: x91 :: x92 :: x93 :: x94 :: x95 :: x96 :: x97 :: x98 :: x99 :: x100 :: x101 :: x102 :: x103 :: x104 :: x105 :: x106 :: x107 :: x108 :: x109 :: x110 :: x111 :: x112 :: x113 :: x114 :: x115 :: x116 :: x117 :: x118 :: x119 :: x120 :: x121 :: x122 :: x123 :: x124 :: x125 :: x126 :: x127 :: x128 :: x129 :: x130 :: x131 :: x132 :: x133 :: x134 :: x135 :: x136 :: x137 :: x138 :: x139 :: x140 :: x141 :: x142 :: x143 :: x144 :: x145 :: x146 :: x147 :: x148 :: x149 :: x150 :: x151 :: x152 :: x153 :: x154 :: x155 :: x156 :: x157 :: x158 :: x159 :: x160 :: x161 :: x162 :: x163 :: x164 :: x165 :: x166 :: x167 :: x168 :: x169 :: x170 :: x171 :: x172 :: x173 :: x174 :: x175 :: x176 :: x177 :: x178 :: x179 :: x180 :: x181 :: x182 :: x183 :: x184 :: x185 :: x186 :: x187 :: []).toArray, []⟩) : ∀ a, Frm 188 [(1, v0), (2, v1), (77, v2), (78, v3), (79, v4), (6, v5), (7, v6), (8, v7), (10, v8)] a → P a := by
  rintro a ⟨h1, h2, e0, e1, e2, e3, e4, e5, e6, e7, e8, _⟩
  revert e0 e1 e2 e3 e4 e5 e6 e7 e8
  refine frame_mr (P := fun a => a.tmps.toList[1]? = some v0 → a.tmps.toList[2]? = some v1 → a.tmps.toList[77]? = some v2 → a.tmps.toList[78]? = some v3 → a.tmps.toList[79]? = some v4 → a.tmps.toList[6]? = some v5 → a.tmps.toList[7]? = some v6 → a.tmps.toList[8]? = some v7 → a.tmps.toList[10]? = some v8 → P a) ?_ a h1 h2
  intro x0 x1 x2 x3 x4 x5 x6 x7 x8 x9 x10 x11 x12 x13 x14 x15 x16 x17 x18 x19 x20 x21 x22 x23 x24 x25 x26 x27 x28 x29 x30 x31 x32 x33 x34 x35 x36 x37 x38 x39 x40 x41 x42 x43 x44 x45 x46 x47 x48 x49 x50 x51 x52 x53 x54 x55 x56 x57 x58 x59 x60 x61 x62 x63 x64 x65 x66 x67 x68 x69 x70 x71 x72 x73 x74 x75 x76 x77 x78 x79 x80 x81 x82 x83 x84 x85 x86 x87 x88 x89 x90 x91 x92 x93 x94 x95 x96 x97 x98 x99 x100 x101 x102 x103 x104 x105 x106 x107 x108 x109 x110 x111 x112 x113 x114 x115 x116 x117 x118 x119 x120 x121 x122 x123 x124 x125 x126 x127 x128 x129 x130 x131 x132 x133 x134 x135 x136 x137 x138 x139 x140 x141 x142 x143 x144 x145 x146 x147 x148 x149 x150 x151 x152 x153 x154 x155 x156 x157 x158 x159 x160 x161 x162 x163 x164 x165 x166 x167 x168 x169 x170 x171 x172 x173 x174 x175 x176 x177 x178 x179 x180 x181 x182 x183 x184 x185 x186 x187 e0 e1 e2 e3 e4 e5 e6 e7 e8
  obtain rfl : x1 = v0 := Option.some.inj e0
  obtain rfl : x2 = v1 := Option.some.inj e1
  obtain rfl : x77 = v2 := Option.some.inj e2
  obtain rfl : x78 = v3 := Option.some.inj e3
  obtain rfl : x79 = v4 := Option.some.inj e4
  obtain rfl : x6 = v5 := Option.some.inj e5
  obtain rfl : x7 = v6 := Option.some.inj e6
  obtain rfl : x8 = v7 := Option.some.inj e7
  obtain rfl : x10 = v8 := Option.some.inj e8
  exact h x0 x3 x4 x5 x9 x11 x12 x13 x14 x15 x16 x17 x18 x19 x20 x21 x22 x23 x24 x25 x26 x27 x28 x29 x30 x31 x32 x33 x34 x35 x36 x37 x38 x39 x40 x41 x42 x43 x44 x45 x46 x47 x48 x49 x50 x51 x52 x53 x54 x55 x56 x57 x58 x59 x60 x61 x62 x63 x64 x65 x66 x67 x68 x69 x70 x71 x72 x73 x74 x75 x76 x80 x81 x82 x83 x84 x85 x86 x87 x88 x89 x90 x91 x92 x93 x94 x95 x96 x97 x98 x99 x100 x101 x102 x103 x104 x105 x106 x107 x108 x109 x110 x111 x112 x113 x114 x115 x116 x117 x118 x119 x120 x121 x122 x123 x124 x125 x126 x127 x128 x129 x130 x131 x132 x133 x134 x135 x136 x137 x138 x139 x140 x141 x142 x143 x144 x145 x146 x147 x148 x149 x150 x151 x152 x153 x154 x155 x156 x157 x158 x159 x160 x161 x162 x163 x164 x165 x166 x167 x168 x169 x170 x171 x172 x173 x174 x175 x176 x177 x178 x179 x180 x181 x182 x183 x184 x185 x186 x187
set_option maxRecDepth 1000000 in
set_option maxHeartbeats 16000000 in
theorem mr_r31_wp {Q : Exit → Act → World → Prop} {w : World} {rl : List Rel} {d j b o E : Nat} {nm : ByteArray} {ar : Int} {T : Option Addr} {tp : List (List Int)} {t : Nat} {k q : Nat} {wo : World} (hpx : wo.heap[E]? = some (.cells #[.string nm, .int .i64 ar, .slice T tp.length t] 48 (0, 0))) (hN : ∀ a', Frm 188 [(1, .pointer (some ⟨w.heap.size, 0, none⟩)), (2, .pointer (some ⟨w.heap.size + 1, 0, none⟩)), (77, .slice (some ⟨b, o, none⟩) rl.length d), (78, .int .i64 (rl.length : Nat)), (79, .int .i64 (j : Nat)), (6, .int .i64 (j : Nat)), (7, .pointer (some ⟨E, 0, none⟩)), (8, .int .i64 (k : Nat)), (10, .int .i64 (q : Nat)), (131, .bool (decide (q < tp.length ∧ k = 0)))] a' → Q .normal a' wo) : ∀ ac, Frm 188 [(1, .pointer (some ⟨w.heap.size, 0, none⟩)), (2, .pointer (some ⟨w.heap.size + 1, 0, none⟩)), (77, .slice (some ⟨b, o, none⟩) rl.length d), (78, .int .i64 (rl.length : Nat)), (79, .int .i64 (j : Nat)), (6, .int .i64 (j : Nat)), (7, .pointer (some ⟨E, 0, none⟩)), (8, .int .i64 (k : Nat)), (10, .int .i64 (q : Nat))] ac → Code.wp Tryd.prog c_mr_r31 Q ac wo := by
  refine open_mr_r31 (P := fun a => Code.wp Tryd.prog c_mr_r31 Q a wo) ?_
  intro x0 x3 x4 x5 x9 x11 x12 x13 x14 x15 x16 x17 x18 x19 x20 x21 x22 x23 x24 x25 x26 x27 x28 x29 x30 x31 x32 x33 x34 x35 x36 x37 x38 x39 x40 x41 x42 x43 x44 x45 x46 x47 x48 x49 x50 x51 x52 x53 x54 x55 x56 x57 x58 x59 x60 x61 x62 x63 x64 x65 x66 x67 x68 x69 x70 x71 x72 x73 x74 x75 x76 x80 x81 x82 x83 x84 x85 x86 x87 x88 x89 x90 x91 x92 x93 x94 x95 x96 x97 x98 x99 x100 x101 x102 x103 x104 x105 x106 x107 x108 x109 x110 x111 x112 x113 x114 x115 x116 x117 x118 x119 x120 x121 x122 x123 x124 x125 x126 x127 x128 x129 x130 x131 x132 x133 x134 x135 x136 x137 x138 x139 x140 x141 x142 x143 x144 x145 x146 x147 x148 x149 x150 x151 x152 x153 x154 x155 x156 x157 x158 x159 x160 x161 x162 x163 x164 x165 x166 x167 x168 x169 x170 x171 x172 x173 x174 x175 x176 x177 x178 x179 x180 x181 x182 x183 x184 x185 x186 x187
  conv => arg 2; whnf
  have HN := Lib.hid hN
  clear hN
  have px := hpx
  clear hpx
  have px_0 := cv0 px
  have px_1 := cv1 px
  have px_2 := cv2 px
  have px_l := lt_heap px
  have PX := Lib.hid px
  clear px
  by_cases hq : q < tp.length
  case neg =>
    have q1 : ¬ (q : Int) < (tp.length : Int) := by omega
    rw [show decide (q < tp.length ∧ k = 0) = false from decide_eq_false (fun h => hq h.1)] at HN
    go_wp2_with fail
    exact HN.out _ (id ⟨rfl, rfl, rfl, rfl, rfl, rfl, rfl, rfl, rfl, rfl, rfl, rfl, trivial⟩)
  have q1 : (q : Int) < (tp.length : Int) := by omega
  by_cases hk : k = 0
  · subst hk
    rw [show decide (q < tp.length ∧ (0 : Nat) = 0) = true from decide_eq_true ⟨hq, rfl⟩] at HN
    go_wp2_with fail
    exact HN.out _ (id ⟨rfl, rfl, rfl, rfl, rfl, rfl, rfl, rfl, rfl, rfl, rfl, rfl, trivial⟩)
  · have q2 : ((k : Int) == 0) = false := beq_eq_false_iff_ne.2 (by omega)
    rw [show decide (q < tp.length ∧ k = 0) = false from decide_eq_false (fun h => hk h.2)] at HN
    go_wp2_with fail
    exact HN.out _ (id ⟨rfl, rfl, rfl, rfl, rfl, rfl, rfl, rfl, rfl, rfl, rfl, rfl, trivial⟩)
noncomputable def c_mr_r33 : Code := sub [1, 1, 1, 1, 0, 1, 0, 0, 1, 1, 0, 0, 1, 1, 1, 0, 1, 0, 0, 1, 0, 0, 0] (Tryd.f8.body.getD .skip)
set_option maxRecDepth 1000000 in
theorem open_mr_r33 {P : Act → Prop} {v0 v1 v2 v3 v4 v5 v6 v7 v8 : Value} (h : ∀ x0 x3 x4 x5 x9 x11 x12 x13 x14 x15 x16 x17 x18 x19 x20 x21 x22 x23 x24 x25 x26 x27 x28 x29 x30 x31 x32 x33 x34 x35 x36 x37 x38 x39 x40 x41 x42 x43 x44 x45 x46 x47 x48 x49 x50 x51 x52 x53 x54 x55 x56 x57 x58 x59 x60 x61 x62 x63 x64 x65 x66 x67 x68 x69 x70 x71 x72 x73 x74 x75 x76 x80 x81 x82 x83 x84 x85 x86 x87 x88 x89 x90 x91 x92 x93 x94 x95 x96 x97 x98 x99 x100 x101 x102 x103 x104 x105 x106 x107 x108 x109 x110 x111 x112 x113 x114 x115 x116 x117 x118 x119 x120 x121 x122 x123 x124 x125 x126 x127 x128 x129 x130 x131 x132 x133 x134 x135 x136 x137 x138 x139 x140 x141 x142 x143 x144 x145 x146 x147 x148 x149 x150 x151 x152 x153 x154 x155 x156 x157 x158 x159 x160 x161 x162 x163 x164 x165 x166 x167 x168 x169 x170 x171 x172 x173 x174 x175 x176 x177 x178 x179 x180 x181 x182 x183 x184 x185 x186 x187 : Value, P ⟨(x0 :: v0 :: v1 :: x3 :: x4 :: x5 :: v5 :: v6 :: v7 :: x9 :: v8 :: x11 :: x12 :: x13 :: x14 :: x15 :: x16 :: x17 :: x18 :: x19 :: x20 :: x21 :: x22 :: x23 :: x24 :: x25 :: x26 :: x27 :: x28 :: x29 :: x30 :: x31 :: x32 :: x33 :: x34 :: x35 :: x36 :: x37 :: x38 :: x39 :: x40 :: x41 :: x42 :: x43 :: x44 :: x45 :: x46 :: x47 :: x48 :: x49 :: x50 :: x51 :: x52 :: x53 :: x54 :: x55 :: x56 :: x57 :: x58 :: x59 :: x60 :: x61 :: x62 :: x63 :: x64 :: x65 :: x66 :: x67 :: x68 :: x69 :: x70 :: x71 :: x72 :: x73 :: x74 :: x75 :: x76 :: v2 :: v3 :: v4 :: x80 :: x81 :: x82 :: x83 :: x84 :: x85 :: x86 :: x87 :: x88 :: x89 :: x90 :: x91 :: x92 :: x93 :: x94 :: x95 :: x96 :: x97 :: x98 :: x99 :: x100 :: x101 :: x102 :: x103 :: x104 :: x105 :: x106 :: x107 :: x108 :: x109 :: x110 :: x111 :: x112 :: x113 :: x114 :: x115 :: x116 :: x117 :: x118 :: x119 :: x120 :: x121 :: x122 :: x123 :: x124 :: x125 :: x126 :: x127 :: x128 :: x129 :: x130 :: x131 :: x132 :: x133 :: x134 :: x135 :: x136 :: x137 :: x138 :: x139 :: x140 :: x141 :: x142 :: x143 :: x144 :: x145 :: x146 :: x147 :: x148 :: x149 :: x150 :: x151 :: x152 :: x153 :: x154 :: x155 :: x156 :: x157 :: x158 :: x159 :: x160 :: x161 :: x162 :: x163 :: x164 :: x165 :: x166 :: x167 :: x168 :: x169 :: x170 :: x171 :: x172 :: x173 :: x174 :: x175 :: x176 :: x177 :: x178 :: x179 :: x180 :: x181 :: x182 :: x183 :: x184 :: x185 :: x186 :: x187 :: []).toArray, []⟩) : ∀ a, Frm 188 [(1, v0), (2, v1), (77, v2), (78, v3), (79, v4), (6, v5), (7, v6), (8, v7), (10, v8)] a → P a := by
  rintro a ⟨h1, h2, e0, e1, e2, e3, e4, e5, e6, e7, e8, _⟩
  revert e0 e1 e2 e3 e4 e5 e6 e7 e8
  refine frame_mr (P := fun a => a.tmps.toList[1]? = some v0 → a.tmps.toList[2]? = some v1 → a.tmps.toList[77]? = some v2 → a.tmps.toList[78]? = some v3 → a.tmps.toList[79]? = some v4 → a.tmps.toList[6]? = some v5 → a.tmps.toList[7]? = some v6 → a.tmps.toList[8]? = some v7 → a.tmps.toList[10]? = some v8 → P a) ?_ a h1 h2
  intro x0 x1 x2 x3 x4 x5 x6 x7 x8 x9 x10 x11 x12 x13 x14 x15 x16 x17 x18 x19 x20 x21 x22 x23 x24 x25 x26 x27 x28 x29 x30 x31 x32 x33 x34 x35 x36 x37 x38 x39 x40 x41 x42 x43 x44 x45 x46 x47 x48 x49 x50 x51 x52 x53 x54 x55 x56 x57 x58 x59 x60 x61 x62 x63 x64 x65 x66 x67 x68 x69 x70 x71 x72 x73 x74 x75 x76 x77 x78 x79 x80 x81 x82 x83 x84 x85 x86 x87 x88 x89 x90 x91 x92 x93 x94 x95 x96 x97 x98 x99 x100 x101 x102 x103 x104 x105 x106 x107 x108 x109 x110 x111 x112 x113 x114 x115 x116 x117 x118 x119 x120 x121 x122 x123 x124 x125 x126 x127 x128 x129 x130 x131 x132 x133 x134 x135 x136 x137 x138 x139 x140 x141 x142 x143 x144 x145 x146 x147 x148 x149 x150 x151 x152 x153 x154 x155 x156 x157 x158 x159 x160 x161 x162 x163 x164 x165 x166 x167 x168 x169 x170 x171 x172 x173 x174 x175 x176 x177 x178 x179 x180 x181 x182 x183 x184 x185 x186 x187 e0 e1 e2 e3 e4 e5 e6 e7 e8
  obtain rfl : x1 = v0 := Option.some.inj e0
  obtain rfl : x2 = v1 := Option.some.inj e1
  obtain rfl : x77 = v2 := Option.some.inj e2
  obtain rfl : x78 = v3 := Option.some.inj e3
  obtain rfl : x79 = v4 := Option.some.inj e4
  obtain rfl : x6 = v5 := Option.some.inj e5
  obtain rfl : x7 = v6 := Option.some.inj e6
  obtain rfl : x8 = v7 := Option.some.inj e7
  obtain rfl : x10 = v8 := Option.some.inj e8
  exact h x0 x3 x4 x5 x9 x11 x12 x13 x14 x15 x16 x17 x18 x19 x20 x21 x22 x23 x24 x25 x26 x27 x28 x29 x30 x31 x32 x33 x34 x35 x36 x37 x38 x39 x40 x41 x42 x43 x44 x45 x46 x47 x48 x49 x50 x51 x52 x53 x54 x55 x56 x57 x58 x59 x60 x61 x62 x63 x64 x65 x66 x67 x68 x69 x70 x71 x72 x73 x74 x75 x76 x80 x81 x82 x83 x84 x85 x86 x87 x88 x89 x90 x91 x92 x93 x94 x95 x96 x97 x98 x99 x100 x101 x102 x103 x104 x105 x106 x107 x108 x109 x110 x111 x112 x113 x114 x115 x116 x117 x118 x119 x120 x121 x122 x123 x124 x125 x126 x127 x128 x129 x130 x131 x132 x133 x134 x135 x136 x137 x138 x139 x140 x141 x142 x143 x144 x145 x146 x147 x148 x149 x150 x151 x152 x153 x154 x155 x156 x157 x158 x159 x160 x161 x162 x163 x164 x165 x166 x167 x168 x169 x170 x171 x172 x173 x174 x175 x176 x177 x178 x179 x180 x181 x182 x183 x184 x185 x186 x187
set_option maxRecDepth 1000000 in
set_option maxHeartbeats 16000000 in
theorem mr_r33_wp {Q : Exit → Act → World → Prop} {w : World} {rl : List Rel} {d j b o E : Nat} {nm : ByteArray} {ar : Int} {T : Option Addr} {tp : List (List Int)} {t : Nat} {t2 : Nat} {T2 : Option Addr} {tu : List Int} {b2 o2 q : Nat} {wo : World} (hq : q < tp.length) (hb2 : b2 < wo.heap.size) (hpx : wo.heap[E]? = some (.cells #[.string nm, .int .i64 ar, .slice (some ⟨b2, o2, none⟩) tp.length t] 48 (0, 0))) (e0 : wo.cell? ⟨b2, o2 + q, none⟩ = some (.slice T2 tu.length t2)) (hN : ∀ a', Frm 188 [(1, .pointer (some ⟨w.heap.size, 0, none⟩)), (2, .pointer (some ⟨w.heap.size + 1, 0, none⟩)), (77, .slice (some ⟨b, o, none⟩) rl.length d), (78, .int .i64 (rl.length : Nat)), (79, .int .i64 (j : Nat)), (6, .int .i64 (j : Nat)), (7, .pointer (some ⟨E, 0, none⟩)), (8, .int .i64 0), (10, .int .i64 (q : Nat)), (11, .slice T2 tu.length t2)] a' → Q .normal a' wo) : ∀ ac, Frm 188 [(1, .pointer (some ⟨w.heap.size, 0, none⟩)), (2, .pointer (some ⟨w.heap.size + 1, 0, none⟩)), (77, .slice (some ⟨b, o, none⟩) rl.length d), (78, .int .i64 (rl.length : Nat)), (79, .int .i64 (j : Nat)), (6, .int .i64 (j : Nat)), (7, .pointer (some ⟨E, 0, none⟩)), (8, .int .i64 0), (10, .int .i64 (q : Nat))] ac → Code.wp Tryd.prog c_mr_r33 Q ac wo := by
  refine open_mr_r33 (P := fun a => Code.wp Tryd.prog c_mr_r33 Q a wo) ?_
  intro x0 x3 x4 x5 x9 x11 x12 x13 x14 x15 x16 x17 x18 x19 x20 x21 x22 x23 x24 x25 x26 x27 x28 x29 x30 x31 x32 x33 x34 x35 x36 x37 x38 x39 x40 x41 x42 x43 x44 x45 x46 x47 x48 x49 x50 x51 x52 x53 x54 x55 x56 x57 x58 x59 x60 x61 x62 x63 x64 x65 x66 x67 x68 x69 x70 x71 x72 x73 x74 x75 x76 x80 x81 x82 x83 x84 x85 x86 x87 x88 x89 x90 x91 x92 x93 x94 x95 x96 x97 x98 x99 x100 x101 x102 x103 x104 x105 x106 x107 x108 x109 x110 x111 x112 x113 x114 x115 x116 x117 x118 x119 x120 x121 x122 x123 x124 x125 x126 x127 x128 x129 x130 x131 x132 x133 x134 x135 x136 x137 x138 x139 x140 x141 x142 x143 x144 x145 x146 x147 x148 x149 x150 x151 x152 x153 x154 x155 x156 x157 x158 x159 x160 x161 x162 x163 x164 x165 x166 x167 x168 x169 x170 x171 x172 x173 x174 x175 x176 x177 x178 x179 x180 x181 x182 x183 x184 x185 x186 x187
  conv => arg 2; whnf
  have HN := Lib.hid hN
  clear hN
  have px := hpx
  clear hpx
  have px_0 := cv0 px
  have px_1 := cv1 px
  have px_2 := cv2 px
  have px_l := lt_heap px
  have PX := Lib.hid px
  clear px
  have q0 : (0 : Int) ≤ (q : Int) := by omega
  have q1 : (q : Int) < (tp.length : Int) := by omega
  go_wp2_with fail
  exact HN.out _ (id ⟨rfl, rfl, rfl, rfl, rfl, rfl, rfl, rfl, rfl, rfl, rfl, rfl, trivial⟩)
noncomputable def c_mr_r34 : Code := sub [1, 1, 1, 1, 0, 1, 0, 0, 1, 1, 0, 0, 1, 1, 1, 0, 1, 0, 0, 1, 0, 0, 1, 0, 0] (Tryd.f8.body.getD .skip)
set_option maxRecDepth 1000000 in
theorem open_mr_r34 {P : Act → Prop} {v0 v1 v2 v3 v4 v5 v6 v7 v8 v9 : Value} (h : ∀ x0 x3 x4 x5 x9 x12 x13 x14 x15 x16 x17 x18 x19 x20 x21 x22 x23 x24 x25 x26 x27 x28 x29 x30 x31 x32 x33 x34 x35 x36 x37 x38 x39 x40 x41 x42 x43 x44 x45 x46 x47 x48 x49 x50 x51 x52 x53 x54 x55 x56 x57 x58 x59 x60 x61 x62 x63 x64 x65 x66 x67 x68 x69 x70 x71 x72 x73 x74 x75 x76 x80 x81 x82 x83 x84 x85 x86 x87 x88 x89 x90 x91 x92 x93 x94 x95 x96 x97 x98 x99 x100 x101 x102 x103 x104 x105 x106 x107 x108 x109 x110 x111 x112 x113 x114 x115 x116 x117 x118 x119 x120 x121 x122 x123 x124 x125 x126 x127 x128 x129 x130 x131 x132 x133 x134 x135 x136 x137 x138 x139 x140 x141 x142 x143 x144 x145 x146 x147 x148 x149 x150 x151 x152 x153 x154 x155 x156 x157 x158 x159 x160 x161 x162 x163 x164 x165 x166 x167 x168 x169 x170 x171 x172 x173 x174 x175 x176 x177 x178 x179 x180 x181 x182 x183 x184 x185 x186 x187 : Value, P ⟨(x0 :: v0 :: v1 :: x3 :: x4 :: x5 :: v5 :: v6 :: v7 :: x9 :: v8 :: v9 :: x12 :: x13 :: x14 :: x15 :: x16 :: x17 :: x18 :: x19 :: x20 :: x21 :: x22 :: x23 :: x24 :: x25 :: x26 :: x27 :: x28 :: x29 :: x30 :: x31 :: x32 :: x33 :: x34 :: x35 :: x36 :: x37 :: x38 :: x39 :: x40 :: x41 :: x42 :: x43 :: x44 :: x45 :: x46 :: x47 :: x48 :: x49 :: x50 :: x51 :: x52 :: x53 :: x54 :: x55 :: x56 :: x57 :: x58 :: x59 :: x60 :: x61 :: x62 :: x63 :: x64 :: x65 :: x66 :: x67 :: x68 :: x69 :: x70 :: x71 :: x72 :: x73 :: x74 :: x75 :: x76 :: v2 :: v3 :: v4 :: x80 :: x81 :: x82 :: x83 :: x84 :: x85 :: x86 :: x87 :: x88 :: x89 :: x90 :: x91 :: x92 :: x93 :: x94 :: x95 :: x96 :: x97 :: x98 :: x99 :: x100 :: x101 :: x102 :: x103 :: x104 :: x105 :: x106 :: x107 :: x108 :: x109 :: x110 :: x111 :: x112 :: x113 :: x114 :: x115 :: x116 :: x117 :: x118 :: x119 :: x120 :: x121 :: x122 :: x123 :: x124 :: x125 :: x126 :: x127 :: x128 :: x129 :: x130 :: x131 :: x132 :: x133 :: x134 :: x135 :: x136 :: x137 :: x138 :: x139 :: x140 :: x141 :: x142 :: x143 :: x144 :: x145 :: x146 :: x147 :: x148 :: x149 :: x150 :: x151 :: x152 :: x153 :: x154 :: x155 :: x156 :: x157 :: x158 :: x159 :: x160 :: x161 :: x162 :: x163 :: x164 :: x165 :: x166 :: x167 :: x168 :: x169 :: x170 :: x171 :: x172 :: x173 :: x174 :: x175 :: x176 :: x177 :: x178 :: x179 :: x180 :: x181 :: x182 :: x183 :: x184 :: x185 :: x186 :: x187 :: []).toArray, []⟩) : ∀ a, Frm 188 [(1, v0), (2, v1), (77, v2), (78, v3), (79, v4), (6, v5), (7, v6), (8, v7), (10, v8), (11, v9)] a → P a := by
  rintro a ⟨h1, h2, e0, e1, e2, e3, e4, e5, e6, e7, e8, e9, _⟩
  revert e0 e1 e2 e3 e4 e5 e6 e7 e8 e9
  refine frame_mr (P := fun a => a.tmps.toList[1]? = some v0 → a.tmps.toList[2]? = some v1 → a.tmps.toList[77]? = some v2 → a.tmps.toList[78]? = some v3 → a.tmps.toList[79]? = some v4 → a.tmps.toList[6]? = some v5 → a.tmps.toList[7]? = some v6 → a.tmps.toList[8]? = some v7 → a.tmps.toList[10]? = some v8 → a.tmps.toList[11]? = some v9 → P a) ?_ a h1 h2
  intro x0 x1 x2 x3 x4 x5 x6 x7 x8 x9 x10 x11 x12 x13 x14 x15 x16 x17 x18 x19 x20 x21 x22 x23 x24 x25 x26 x27 x28 x29 x30 x31 x32 x33 x34 x35 x36 x37 x38 x39 x40 x41 x42 x43 x44 x45 x46 x47 x48 x49 x50 x51 x52 x53 x54 x55 x56 x57 x58 x59 x60 x61 x62 x63 x64 x65 x66 x67 x68 x69 x70 x71 x72 x73 x74 x75 x76 x77 x78 x79 x80 x81 x82 x83 x84 x85 x86 x87 x88 x89 x90 x91 x92 x93 x94 x95 x96 x97 x98 x99 x100 x101 x102 x103 x104 x105 x106 x107 x108 x109 x110 x111 x112 x113 x114 x115 x116 x117 x118 x119 x120 x121 x122 x123 x124 x125 x126 x127 x128 x129 x130 x131 x132 x133 x134 x135 x136 x137 x138 x139 x140 x141 x142 x143 x144 x145 x146 x147 x148 x149 x150 x151 x152 x153 x154 x155 x156 x157 x158 x159 x160 x161 x162 x163 x164 x165 x166 x167 x168 x169 x170 x171 x172 x173 x174 x175 x176 x177 x178 x179 x180 x181 x182 x183 x184 x185 x186 x187 e0 e1 e2 e3 e4 e5 e6 e7 e8 e9
  obtain rfl : x1 = v0 := Option.some.inj e0
  obtain rfl : x2 = v1 := Option.some.inj e1
  obtain rfl : x77 = v2 := Option.some.inj e2
  obtain rfl : x78 = v3 := Option.some.inj e3
  obtain rfl : x79 = v4 := Option.some.inj e4
  obtain rfl : x6 = v5 := Option.some.inj e5
  obtain rfl : x7 = v6 := Option.some.inj e6
  obtain rfl : x8 = v7 := Option.some.inj e7
  obtain rfl : x10 = v8 := Option.some.inj e8
  obtain rfl : x11 = v9 := Option.some.inj e9
  exact h x0 x3 x4 x5 x9 x12 x13 x14 x15 x16 x17 x18 x19 x20 x21 x22 x23 x24 x25 x26 x27 x28 x29 x30 x31 x32 x33 x34 x35 x36 x37 x38 x39 x40 x41 x42 x43 x44 x45 x46 x47 x48 x49 x50 x51 x52 x53 x54 x55 x56 x57 x58 x59 x60 x61 x62 x63 x64 x65 x66 x67 x68 x69 x70 x71 x72 x73 x74 x75 x76 x80 x81 x82 x83 x84 x85 x86 x87 x88 x89 x90 x91 x92 x93 x94 x95 x96 x97 x98 x99 x100 x101 x102 x103 x104 x105 x106 x107 x108 x109 x110 x111 x112 x113 x114 x115 x116 x117 x118 x119 x120 x121 x122 x123 x124 x125 x126 x127 x128 x129 x130 x131 x132 x133 x134 x135 x136 x137 x138 x139 x140 x141 x142 x143 x144 x145 x146 x147 x148 x149 x150 x151 x152 x153 x154 x155 x156 x157 x158 x159 x160 x161 x162 x163 x164 x165 x166 x167 x168 x169 x170 x171 x172 x173 x174 x175 x176 x177 x178 x179 x180 x181 x182 x183 x184 x185 x186 x187
set_option maxRecDepth 1000000 in
set_option maxHeartbeats 16000000 in
theorem mr_r34_wp {Q : Exit → Act → World → Prop} {w : World} {rl : List Rel} {d j b o E : Nat} {nm : ByteArray} {ar : Int} {T : Option Addr} {tp : List (List Int)} {t : Nat} {t2 : Nat} {T2 : Option Addr} {tu : List Int} {q : Nat} {wo : World} (hpx : wo.heap[E]? = some (.cells #[.string nm, .int .i64 ar, .slice T tp.length t] 48 (0, 0))) (hN : ∀ a', Frm 188 [(1, .pointer (some ⟨w.heap.size, 0, none⟩)), (2, .pointer (some ⟨w.heap.size + 1, 0, none⟩)), (77, .slice (some ⟨b, o, none⟩) rl.length d), (78, .int .i64 (rl.length : Nat)), (79, .int .i64 (j : Nat)), (6, .int .i64 (j : Nat)), (7, .pointer (some ⟨E, 0, none⟩)), (8, .int .i64 0), (10, .int .i64 (q : Nat)), (11, .slice T2 tu.length t2), (143, .bool (decide ((tu.length : Int) ≠ ar)))] a' → Q .normal a' wo) : ∀ ac, Frm 188 [(1, .pointer (some ⟨w.heap.size, 0, none⟩)), (2, .pointer (some ⟨w.heap.size + 1, 0, none⟩)), (77, .slice (some ⟨b, o, none⟩) rl.length d), (78, .int .i64 (rl.length : Nat)), (79, .int .i64 (j : Nat)), (6, .int .i64 (j : Nat)), (7, .pointer (some ⟨E, 0, none⟩)), (8, .int .i64 0), (10, .int .i64 (q : Nat)), (11, .slice T2 tu.length t2)] ac → Code.wp Tryd.prog c_mr_r34 Q ac wo := by
  refine open_mr_r34 (P := fun a => Code.wp Tryd.prog c_mr_r34 Q a wo) ?_
  intro x0 x3 x4 x5 x9 x12 x13 x14 x15 x16 x17 x18 x19 x20 x21 x22 x23 x24 x25 x26 x27 x28 x29 x30 x31 x32 x33 x34 x35 x36 x37 x38 x39 x40 x41 x42 x43 x44 x45 x46 x47 x48 x49 x50 x51 x52 x53 x54 x55 x56 x57 x58 x59 x60 x61 x62 x63 x64 x65 x66 x67 x68 x69 x70 x71 x72 x73 x74 x75 x76 x80 x81 x82 x83 x84 x85 x86 x87 x88 x89 x90 x91 x92 x93 x94 x95 x96 x97 x98 x99 x100 x101 x102 x103 x104 x105 x106 x107 x108 x109 x110 x111 x112 x113 x114 x115 x116 x117 x118 x119 x120 x121 x122 x123 x124 x125 x126 x127 x128 x129 x130 x131 x132 x133 x134 x135 x136 x137 x138 x139 x140 x141 x142 x143 x144 x145 x146 x147 x148 x149 x150 x151 x152 x153 x154 x155 x156 x157 x158 x159 x160 x161 x162 x163 x164 x165 x166 x167 x168 x169 x170 x171 x172 x173 x174 x175 x176 x177 x178 x179 x180 x181 x182 x183 x184 x185 x186 x187
  conv => arg 2; whnf
  have HN := Lib.hid hN
  clear hN
  have px := hpx
  clear hpx
  have px_0 := cv0 px
  have px_1 := cv1 px
  have px_2 := cv2 px
  have px_l := lt_heap px
  have PX := Lib.hid px
  clear px
  by_cases hl : (tu.length : Int) = ar
  · have q1 : ((tu.length : Int) != ar) = false := by rw [hl]; simp
    rw [show decide ((tu.length : Int) ≠ ar) = false from decide_eq_false (fun h => h hl)] at HN
    clear hl
    go_wp2_with fail
    exact HN.out _ (id ⟨rfl, rfl, rfl, rfl, rfl, rfl, rfl, rfl, rfl, rfl, rfl, rfl, rfl, trivial⟩)
  · have q1 : ((tu.length : Int) != ar) = true := bne_iff_ne.2 hl
    rw [show decide ((tu.length : Int) ≠ ar) = true from decide_eq_true hl] at HN
    clear hl
    go_wp2_with fail
    exact HN.out _ (id ⟨rfl, rfl, rfl, rfl, rfl, rfl, rfl, rfl, rfl, rfl, rfl, rfl, rfl, trivial⟩)
noncomputable def c_mr_r35 : Code := sub [1, 1, 1, 1, 0, 1, 0, 0, 1, 1, 0, 0, 1, 1, 1, 0, 1, 0, 0, 1, 0, 0, 1, 0, 1, 0, 0] (Tryd.f8.body.getD .skip)
set_option maxRecDepth 1000000 in
theorem open_mr_r35 {P : Act → Prop} {v0 v1 v2 v3 v4 v5 v6 v7 v8 v9 : Value} (h : ∀ x0 x3 x4 x5 x9 x12 x13 x14 x15 x16 x17 x18 x19 x20 x21 x22 x23 x24 x25 x26 x27 x28 x29 x30 x31 x32 x33 x34 x35 x36 x37 x38 x39 x40 x41 x42 x43 x44 x45 x46 x47 x48 x49 x50 x51 x52 x53 x54 x55 x56 x57 x58 x59 x60 x61 x62 x63 x64 x65 x66 x67 x68 x69 x70 x71 x72 x73 x74 x75 x76 x80 x81 x82 x83 x84 x85 x86 x87 x88 x89 x90 x91 x92 x93 x94 x95 x96 x97 x98 x99 x100 x101 x102 x103 x104 x105 x106 x107 x108 x109 x110 x111 x112 x113 x114 x115 x116 x117 x118 x119 x120 x121 x122 x123 x124 x125 x126 x127 x128 x129 x130 x131 x132 x133 x134 x135 x136 x137 x138 x139 x140 x141 x142 x143 x144 x145 x146 x147 x148 x149 x150 x151 x152 x153 x154 x155 x156 x157 x158 x159 x160 x161 x162 x163 x164 x165 x166 x167 x168 x169 x170 x171 x172 x173 x174 x175 x176 x177 x178 x179 x180 x181 x182 x183 x184 x185 x186 x187 : Value, P ⟨(x0 :: v0 :: v1 :: x3 :: x4 :: x5 :: v5 :: v6 :: v7 :: x9 :: v8 :: v9 :: x12 :: x13 :: x14 :: x15 :: x16 :: x17 :: x18 :: x19 :: x20 :: x21 :: x22 :: x23 :: x24 :: x25 :: x26 :: x27 :: x28 :: x29 :: x30 :: x31 :: x32 :: x33 :: x34 :: x35 :: x36 :: x37 :: x38 :: x39 :: x40 :: x41 :: x42 :: x43 :: x44 :: x45 :: x46 :: x47 :: x48 :: x49 :: x50 :: x51 :: x52 :: x53 :: x54 :: x55 :: x56 :: x57 :: x58 :: x59 :: x60 :: x61 :: x62 :: x63 :: x64 :: x65 :: x66 :: x67 :: x68 :: x69 :: x70 :: x71 :: x72 :: x73 :: x74 :: x75 :: x76 :: v2 :: v3 :: v4 :: x80 :: x81 :: x82 :: x83 :: x84 :: x85 :: x86 :: x87 :: x88 :: x89 :: x90 :: x91 :: x92 :: x93 :: x94 :: x95 :: x96 :: x97 :: x98 :: x99 :: x100 :: x101 :: x102 :: x103 :: x104 :: x105 :: x106 :: x107 :: x108 :: x109 :: x110 :: x111 :: x112 :: x113 :: x114 :: x115 :: x116 :: x117 :: x118 :: x119 :: x120 :: x121 :: x122 :: x123 :: x124 :: x125 :: x126 :: x127 :: x128 :: x129 :: x130 :: x131 :: x132 :: x133 :: x134 :: x135 :: x136 :: x137 :: x138 :: x139 :: x140 :: x141 :: x142 :: x143 :: x144 :: x145 :: x146 :: x147 :: x148 :: x149 :: x150 :: x151 :: x152 :: x153 :: x154 :: x155 :: x156 :: x157 :: x158 :: x159 :: x160 :: x161 :: x162 :: x163 :: x164 :: x165 :: x166 :: x167 :: x168 :: x169 :: x170 :: x171 :: x172 :: x173 :: x174 :: x175 :: x176 :: x177 :: x178 :: x179 :: x180 :: x181 :: x182 :: x183 :: x184 :: x185 :: x186 :: x187 :: []).toArray, []⟩) : ∀ a, Frm 188 [(1, v0), (2, v1), (77, v2), (78, v3), (79, v4), (6, v5), (7, v6), (8, v7), (10, v8), (11, v9)] a → P a := by
  rintro a ⟨h1, h2, e0, e1, e2, e3, e4, e5, e6, e7, e8, e9, _⟩
  revert e0 e1 e2 e3 e4 e5 e6 e7 e8 e9
  refine frame_mr (P := fun a => a.tmps.toList[1]? = some v0 → a.tmps.toList[2]? = some v1 → a.tmps.toList[77]? = some v2 → a.tmps.toList[78]? = some v3 → a.tmps.toList[79]? = some v4 → a.tmps.toList[6]? = some v5 → a.tmps.toList[7]? = some v6 → a.tmps.toList[8]? = some v7 → a.tmps.toList[10]? = some v8 → a.tmps.toList[11]? = some v9 → P a) ?_ a h1 h2
  intro x0 x1 x2 x3 x4 x5 x6 x7 x8 x9 x10 x11 x12 x13 x14 x15 x16 x17 x18 x19 x20 x21 x22 x23 x24 x25 x26 x27 x28 x29 x30 x31 x32 x33 x34 x35 x36 x37 x38 x39 x40 x41 x42 x43 x44 x45 x46 x47 x48 x49 x50 x51 x52 x53 x54 x55 x56 x57 x58 x59 x60 x61 x62 x63 x64 x65 x66 x67 x68 x69 x70 x71 x72 x73 x74 x75 x76 x77 x78 x79 x80 x81 x82 x83 x84 x85 x86 x87 x88 x89 x90 x91 x92 x93 x94 x95 x96 x97 x98 x99 x100 x101 x102 x103 x104 x105 x106 x107 x108 x109 x110 x111 x112 x113 x114 x115 x116 x117 x118 x119 x120 x121 x122 x123 x124 x125 x126 x127 x128 x129 x130 x131 x132 x133 x134 x135 x136 x137 x138 x139 x140 x141 x142 x143 x144 x145 x146 x147 x148 x149 x150 x151 x152 x153 x154 x155 x156 x157 x158 x159 x160 x161 x162 x163 x164 x165 x166 x167 x168 x169 x170 x171 x172 x173 x174 x175 x176 x177 x178 x179 x180 x181 x182 x183 x184 x185 x186 x187 e0 e1 e2 e3 e4 e5 e6 e7 e8 e9
  obtain rfl : x1 = v0 := Option.some.inj e0
  obtain rfl : x2 = v1 := Option.some.inj e1
  obtain rfl : x77 = v2 := Option.some.inj e2
  obtain rfl : x78 = v3 := Option.some.inj e3
  obtain rfl : x79 = v4 := Option.some.inj e4
  obtain rfl : x6 = v5 := Option.some.inj e5
  obtain rfl : x7 = v6 := Option.some.inj e6
  obtain rfl : x8 = v7 := Option.some.inj e7
  obtain rfl : x10 = v8 := Option.some.inj e8
  obtain rfl : x11 = v9 := Option.some.inj e9
  exact h x0 x3 x4 x5 x9 x12 x13 x14 x15 x16 x17 x18 x19 x20 x21 x22 x23 x24 x25 x26 x27 x28 x29 x30 x31 x32 x33 x34 x35 x36 x37 x38 x39 x40 x41 x42 x43 x44 x45 x46 x47 x48 x49 x50 x51 x52 x53 x54 x55 x56 x57 x58 x59 x60 x61 x62 x63 x64 x65 x66 x67 x68 x69 x70 x71 x72 x73 x74 x75 x76 x80 x81 x82 x83 x84 x85 x86 x87 x88 x89 x90 x91 x92 x93 x94 x95 x96 x97 x98 x99 x100 x101 x102 x103 x104 x105 x106 x107 x108 x109 x110 x111 x112 x113 x114 x115 x116 x117 x118 x119 x120 x121 x122 x123 x124 x125 x126 x127 x128 x129 x130 x131 x132 x133 x134 x135 x136 x137 x138 x139 x140 x141 x142 x143 x144 x145 x146 x147 x148 x149 x150 x151 x152 x153 x154 x155 x156 x157 x158 x159 x160 x161 x162 x163 x164 x165 x166 x167 x168 x169 x170 x171 x172 x173 x174 x175 x176 x177 x178 x179 x180 x181 x182 x183 x184 x185 x186 x187
set_option maxRecDepth 1000000 in
set_option maxHeartbeats 16000000 in
theorem mr_r35_wp {Q : Exit → Act → World → Prop} {w : World} {rl : List Rel} {d j b o E : Nat} {t2 : Nat} {T2 : Option Addr} {tu : List Int} {q : Nat} {wo : World} (hN : ∀ a', Frm 188 [(1, .pointer (some ⟨w.heap.size, 0, none⟩)), (2, .pointer (some ⟨w.heap.size + 1, 0, none⟩)), (77, .slice (some ⟨b, o, none⟩) rl.length d), (78, .int .i64 (rl.length : Nat)), (79, .int .i64 (j : Nat)), (6, .int .i64 (j : Nat)), (7, .pointer (some ⟨E, 0, none⟩)), (8, .int .i64 9), (10, .int .i64 (q : Nat)), (11, .slice T2 tu.length t2)] a' → Q .normal a' wo) : ∀ ac, Frm 188 [(1, .pointer (some ⟨w.heap.size, 0, none⟩)), (2, .pointer (some ⟨w.heap.size + 1, 0, none⟩)), (77, .slice (some ⟨b, o, none⟩) rl.length d), (78, .int .i64 (rl.length : Nat)), (79, .int .i64 (j : Nat)), (6, .int .i64 (j : Nat)), (7, .pointer (some ⟨E, 0, none⟩)), (8, .int .i64 0), (10, .int .i64 (q : Nat)), (11, .slice T2 tu.length t2)] ac → Code.wp Tryd.prog c_mr_r35 Q ac wo := by
  refine open_mr_r35 (P := fun a => Code.wp Tryd.prog c_mr_r35 Q a wo) ?_
  intro x0 x3 x4 x5 x9 x12 x13 x14 x15 x16 x17 x18 x19 x20 x21 x22 x23 x24 x25 x26 x27 x28 x29 x30 x31 x32 x33 x34 x35 x36 x37 x38 x39 x40 x41 x42 x43 x44 x45 x46 x47 x48 x49 x50 x51 x52 x53 x54 x55 x56 x57 x58 x59 x60 x61 x62 x63 x64 x65 x66 x67 x68 x69 x70 x71 x72 x73 x74 x75 x76 x80 x81 x82 x83 x84 x85 x86 x87 x88 x89 x90 x91 x92 x93 x94 x95 x96 x97 x98 x99 x100 x101 x102 x103 x104 x105 x106 x107 x108 x109 x110 x111 x112 x113 x114 x115 x116 x117 x118 x119 x120 x121 x122 x123 x124 x125 x126 x127 x128 x129 x130 x131 x132 x133 x134 x135 x136 x137 x138 x139 x140 x141 x142 x143 x144 x145 x146 x147 x148 x149 x150 x151 x152 x153 x154 x155 x156 x157 x158 x159 x160 x161 x162 x163 x164 x165 x166 x167 x168 x169 x170 x171 x172 x173 x174 x175 x176 x177 x178 x179 x180 x181 x182 x183 x184 x185 x186 x187
  conv => arg 2; whnf
  have HN := Lib.hid hN
  clear hN
  go_wp2_with fail
  exact HN.out _ (id ⟨rfl, rfl, rfl, rfl, rfl, rfl, rfl, rfl, rfl, rfl, rfl, rfl, trivial⟩)
noncomputable def c_mr_r36 : Code := sub [1, 1, 1, 1, 0, 1, 0, 0, 1, 1, 0, 0, 1, 1, 1, 0, 1, 0, 0, 1, 0, 0, 1, 1, 0, 0] (Tryd.f8.body.getD .skip)
set_option maxRecDepth 1000000 in
theorem open_mr_r36 {P : Act → Prop} {v0 v1 v2 v3 v4 v5 v6 v7 v8 v9 : Value} (h : ∀ x0 x3 x4 x5 x9 x12 x13 x14 x15 x16 x17 x18 x19 x20 x21 x22 x23 x24 x25 x26 x27 x28 x29 x30 x31 x32 x33 x34 x35 x36 x37 x38 x39 x40 x41 x42 x43 x44 x45 x46 x47 x48 x49 x50 x51 x52 x53 x54 x55 x56 x57 x58 x59 x60 x61 x62 x63 x64 x65 x66 x67 x68 x69 x70 x71 x72 x73 x74 x75 x76 x80 x81 x82 x83 x84 x85 x86 x87 x88 x89 x90 x91 x92 x93 x94 x95 x96 x97 x98 x99 x100 x101 x102 x103 x104 x105 x106 x107 x108 x109 x110 x111 x112 x113 x114 x115 x116 x117 x118 x119 x120 x121 x122 x123 x124 x125 x126 x127 x128 x129 x130 x131 x132 x133 x134 x135 x136 x137 x138 x139 x140 x141 x142 x143 x144 x145 x146 x147 x148 x149 x150 x151 x152 x153 x154 x155 x156 x157 x158 x159 x160 x161 x162 x163 x164 x165 x166 x167 x168 x169 x170 x171 x172 x173 x174 x175 x176 x177 x178 x179 x180 x181 x182 x183 x184 x185 x186 x187 : Value, P ⟨(x0 :: v0 :: v1 :: x3 :: x4 :: x5 :: v5 :: v6 :: v7 :: x9 :: v8 :: v9 :: x12 :: x13 :: x14 :: x15 :: x16 :: x17 :: x18 :: x19 :: x20 :: x21 :: x22 :: x23 :: x24 :: x25 :: x26 :: x27 :: x28 :: x29 :: x30 :: x31 :: x32 :: x33 :: x34 :: x35 :: x36 :: x37 :: x38 :: x39 :: x40 :: x41 :: x42 :: x43 :: x44 :: x45 :: x46 :: x47 :: x48 :: x49 :: x50 :: x51 :: x52 :: x53 :: x54 :: x55 :: x56 :: x57 :: x58 :: x59 :: x60 :: x61 :: x62 :: x63 :: x64 :: x65 :: x66 :: x67 :: x68 :: x69 :: x70 :: x71 :: x72 :: x73 :: x74 :: x75 :: x76 :: v2 :: v3 :: v4 :: x80 :: x81 :: x82 :: x83 :: x84 :: x85 :: x86 :: x87 :: x88 :: x89 :: x90 :: x91 :: x92 :: x93 :: x94 :: x95 :: x96 :: x97 :: x98 :: x99 :: x100 :: x101 :: x102 :: x103 :: x104 :: x105 :: x106 :: x107 :: x108 :: x109 :: x110 :: x111 :: x112 :: x113 :: x114 :: x115 :: x116 :: x117 :: x118 :: x119 :: x120 :: x121 :: x122 :: x123 :: x124 :: x125 :: x126 :: x127 :: x128 :: x129 :: x130 :: x131 :: x132 :: x133 :: x134 :: x135 :: x136 :: x137 :: x138 :: x139 :: x140 :: x141 :: x142 :: x143 :: x144 :: x145 :: x146 :: x147 :: x148 :: x149 :: x150 :: x151 :: x152 :: x153 :: x154 :: x155 :: x156 :: x157 :: x158 :: x159 :: x160 :: x161 :: x162 :: x163 :: x164 :: x165 :: x166 :: x167 :: x168 :: x169 :: x170 :: x171 :: x172 :: x173 :: x174 :: x175 :: x176 :: x177 :: x178 :: x179 :: x180 :: x181 :: x182 :: x183 :: x184 :: x185 :: x186 :: x187 :: []).toArray, []⟩) : ∀ a, Frm 188 [(1, v0), (2, v1), (77, v2), (78, v3), (79, v4), (6, v5), (7, v6), (8, v7), (10, v8), (11, v9)] a → P a := by
  rintro a ⟨h1, h2, e0, e1, e2, e3, e4, e5, e6, e7, e8, e9, _⟩
  revert e0 e1 e2 e3 e4 e5 e6 e7 e8 e9
  refine frame_mr (P := fun a => a.tmps.toList[1]? = some v0 → a.tmps.toList[2]? = some v1 → a.tmps.toList[77]? = some v2 → a.tmps.toList[78]? = some v3 → a.tmps.toList[79]? = some v4 → a.tmps.toList[6]? = some v5 → a.tmps.toList[7]? = some v6 → a.tmps.toList[8]? = some v7 → a.tmps.toList[10]? = some v8 → a.tmps.toList[11]? = some v9 → P a) ?_ a h1 h2
  intro x0 x1 x2 x3 x4 x5 x6 x7 x8 x9 x10 x11 x12 x13 x14 x15 x16 x17 x18 x19 x20 x21 x22 x23 x24 x25 x26 x27 x28 x29 x30 x31 x32 x33 x34 x35 x36 x37 x38 x39 x40 x41 x42 x43 x44 x45 x46 x47 x48 x49 x50 x51 x52 x53 x54 x55 x56 x57 x58 x59 x60 x61 x62 x63 x64 x65 x66 x67 x68 x69 x70 x71 x72 x73 x74 x75 x76 x77 x78 x79 x80 x81 x82 x83 x84 x85 x86 x87 x88 x89 x90 x91 x92 x93 x94 x95 x96 x97 x98 x99 x100 x101 x102 x103 x104 x105 x106 x107 x108 x109 x110 x111 x112 x113 x114 x115 x116 x117 x118 x119 x120 x121 x122 x123 x124 x125 x126 x127 x128 x129 x130 x131 x132 x133 x134 x135 x136 x137 x138 x139 x140 x141 x142 x143 x144 x145 x146 x147 x148 x149 x150 x151 x152 x153 x154 x155 x156 x157 x158 x159 x160 x161 x162 x163 x164 x165 x166 x167 x168 x169 x170 x171 x172 x173 x174 x175 x176 x177 x178 x179 x180 x181 x182 x183 x184 x185 x186 x187 e0 e1 e2 e3 e4 e5 e6 e7 e8 e9
  obtain rfl : x1 = v0 := Option.some.inj e0
  obtain rfl : x2 = v1 := Option.some.inj e1
  obtain rfl : x77 = v2 := Option.some.inj e2
  obtain rfl : x78 = v3 := Option.some.inj e3
  obtain rfl : x79 = v4 := Option.some.inj e4
  obtain rfl : x6 = v5 := Option.some.inj e5
  obtain rfl : x7 = v6 := Option.some.inj e6
  obtain rfl : x8 = v7 := Option.some.inj e7
  obtain rfl : x10 = v8 := Option.some.inj e8
  obtain rfl : x11 = v9 := Option.some.inj e9
  exact h x0 x3 x4 x5 x9 x12 x13 x14 x15 x16 x17 x18 x19 x20 x21 x22 x23 x24 x25 x26 x27 x28 x29 x30 x31 x32 x33 x34 x35 x36 x37 x38 x39 x40 x41 x42 x43 x44 x45 x46 x47 x48 x49 x50 x51 x52 x53 x54 x55 x56 x57 x58 x59 x60 x61 x62 x63 x64 x65 x66 x67 x68 x69 x70 x71 x72 x73 x74 x75 x76 x80 x81 x82 x83 x84 x85 x86 x87 x88 x89 x90 x91 x92 x93 x94 x95 x96 x97 x98 x99 x100 x101 x102 x103 x104 x105 x106 x107 x108 x109 x110 x111 x112 x113 x114 x115 x116 x117 x118 x119 x120 x121 x122 x123 x124 x125 x126 x127 x128 x129 x130 x131 x132 x133 x134 x135 x136 x137 x138 x139 x140 x141 x142 x143 x144 x145 x146 x147 x148 x149 x150 x151 x152 x153 x154 x155 x156 x157 x158 x159 x160 x161 x162 x163 x164 x165 x166 x167 x168 x169 x170 x171 x172 x173 x174 x175 x176 x177 x178 x179 x180 x181 x182 x183 x184 x185 x186 x187
set_option maxRecDepth 1000000 in
set_option maxHeartbeats 16000000 in
theorem mr_r36_wp {Q : Exit → Act → World → Prop} {w : World} {rl : List Rel} {d j b o E : Nat} {t2 : Nat} {T2 : Option Addr} {tu : List Int} {q : Nat} {wo : World} (hN : ∀ a', Frm 188 [(1, .pointer (some ⟨w.heap.size, 0, none⟩)), (2, .pointer (some ⟨w.heap.size + 1, 0, none⟩)), (77, .slice (some ⟨b, o, none⟩) rl.length d), (78, .int .i64 (rl.length : Nat)), (79, .int .i64 (j : Nat)), (6, .int .i64 (j : Nat)), (7, .pointer (some ⟨E, 0, none⟩)), (8, .int .i64 0), (10, .int .i64 (q : Nat)), (11, .slice T2 tu.length t2), (144, .slice T2 tu.length t2), (145, .int .i64 (tu.length : Nat)), (146, .int .i64 0)] a' → Q .normal a' wo) : ∀ ac, Frm 188 [(1, .pointer (some ⟨w.heap.size, 0, none⟩)), (2, .pointer (some ⟨w.heap.size + 1, 0, none⟩)), (77, .slice (some ⟨b, o, none⟩) rl.length d), (78, .int .i64 (rl.length : Nat)), (79, .int .i64 (j : Nat)), (6, .int .i64 (j : Nat)), (7, .pointer (some ⟨E, 0, none⟩)), (8, .int .i64 0), (10, .int .i64 (q : Nat)), (11, .slice T2 tu.length t2)] ac → Code.wp Tryd.prog c_mr_r36 Q ac wo := by
  refine open_mr_r36 (P := fun a => Code.wp Tryd.prog c_mr_r36 Q a wo) ?_
  intro x0 x3 x4 x5 x9 x12 x13 x14 x15 x16 x17 x18 x19 x20 x21 x22 x23 x24 x25 x26 x27 x28 x29 x30 x31 x32 x33 x34 x35 x36 x37 x38 x39 x40 x41 x42 x43 x44 x45 x46 x47 x48 x49 x50 x51 x52 x53 x54 x55 x56 x57 x58 x59 x60 x61 x62 x63 x64 x65 x66 x67 x68 x69 x70 x71 x72 x73 x74 x75 x76 x80 x81 x82 x83 x84 x85 x86 x87 x88 x89 x90 x91 x92 x93 x94 x95 x96 x97 x98 x99 x100 x101 x102 x103 x104 x105 x106 x107 x108 x109 x110 x111 x112 x113 x114 x115 x116 x117 x118 x119 x120 x121 x122 x123 x124 x125 x126 x127 x128 x129 x130 x131 x132 x133 x134 x135 x136 x137 x138 x139 x140 x141 x142 x143 x144 x145 x146 x147 x148 x149 x150 x151 x152 x153 x154 x155 x156 x157 x158 x159 x160 x161 x162 x163 x164 x165 x166 x167 x168 x169 x170 x171 x172 x173 x174 x175 x176 x177 x178 x179 x180 x181 x182 x183 x184 x185 x186 x187
  conv => arg 2; whnf
  have HN := Lib.hid hN
  clear hN
  go_wp2_with fail
  exact HN.out _ (id ⟨rfl, rfl, rfl, rfl, rfl, rfl, rfl, rfl, rfl, rfl, rfl, rfl, rfl, rfl, rfl, trivial⟩)
noncomputable def c_mr_r37 : Code := sub [1, 1, 1, 1, 0, 1, 0, 0, 1, 1, 0, 0, 1, 1, 1, 0, 1, 0, 0, 1, 0, 0, 1, 1, 0, 1, 0, 0, 0] (Tryd.f8.body.getD .skip)
set_option maxRecDepth 1000000 in
theorem open_mr_r37 {P : Act → Prop} {v0 v1 v2 v3 v4 v5 v6 v7 v8 v9 v10 v11 v12 : Value} (h : ∀ x0 x3 x4 x5 x9 x12 x13 x14 x15 x16 x17 x18 x19 x20 x21 x22 x23 x24 x25 x26 x27 x28 x29 x30 x31 x32 x33 x34 x35 x36 x37 x38 x39 x40 x41 x42 x43 x44 x45 x46 x47 x48 x49 x50 x51 x52 x53 x54 x55 x56 x57 x58 x59 x60 x61 x62 x63 x64 x65 x66 x67 x68 x69 x70 x71 x72 x73 x74 x75 x76 x80 x81 x82 x83 x84 x85 x86 x87 x88 x89 x90 x91 x92 x93 x94 x95 x96 x97 x98 x99 x100 x101 x102 x103 x104 x105 x106 x107 x108 x109 x110 x111 x112 x113 x114 x115 x116 x117 x118 x119 x120 x121 x122 x123 x124 x125 x126 x127 x128 x129 x130 x131 x132 x133 x134 x135 x136 x137 x138 x139 x140 x141 x142 x143 x147 x148 x149 x150 x151 x152 x153 x154 x155 x156 x157 x158 x159 x160 x161 x162 x163 x164 x165 x166 x167 x168 x169 x170 x171 x172 x173 x174 x175 x176 x177 x178 x179 x180 x181 x182 x183 x184 x185 x186 x187 : Value, P ⟨(x0 :: v0 :: v1 :: x3 :: x4 :: x5 :: v5 :: v6 :: v7 :: x9 :: v8 :: v9 :: x12 :: x13 :: x14 :: x15 :: x16 :: x17 :: x18 :: x19 :: x20 :: x21 :: x22 :: x23 :: x24 :: x25 :: x26 :: x27 :: x28 :: x29 :: x30 :: x31 :: x32 :: x33 :: x34 :: x35 :: x36 :: x37 :: x38 :: x39 :: x40 :: x41 :: x42 :: x43 :: x44 :: x45 :: x46 :: x47 :: x48 :: x49 :: x50 :: x51 :: x52 :: x53 :: x54 :: x55 :: x56 :: x57 :: x58 :: x59 :: x60 :: x61 :: x62 :: x63 :: x64 :: x65 :: x66 :: x67 :: x68 :: x69 :: x70 :: x71 :: x72 :: x73 :: x74 :: x75 :: x76 :: v2 :: v3 :: v4 :: x80 :: x81 :: x82 :: x83 :: x84 :: x85 :: x86 :: x87 :: x88 :: x89 :: x90 :: x91 :: x92 :: x93 :: x94 :: x95 :: x96 :: x97 :: x98 :: x99 :: x100 :: x101 :: x102 :: x103 :: x104 :: x105 :: x106 :: x107 :: x108 :: x109 :: x110 :: x111 :: x112 :: x113 :: x114 :: x115 :: x116 :: x117 :: x118 :: x119 :: x120 :: x121 :: x122 :: x123 :: x124 :: x125 :: x126 :: x127 :: x128 :: x129 :: x130 :: x131 :: x132 :: x133 :: x134 :: x135 :: x136 :: x137 :: x138 :: x139 :: x140 :: x141 :: x142 :: x143 :: v10 :: v11 :: v12 :: x147 :: x148 :: x149 :: x150 :: x151 :: x152 :: x153 :: x154 :: x155 :: x156 :: x157 :: x158 :: x159 :: x160 :: x161 :: x162 :: x163 :: x164 :: x165 :: x166 :: x167 :: x168 :: x169 :: x170 :: x171 :: x172 :: x173 :: x174 :: x175 :: x176 :: x177 :: x178 :: x179 :: x180 :: x181 :: x182 :: x183 :: x184 :: x185 :: x186 :: x187 :: []).toArray, []⟩) : ∀ a, Frm 188 [(1, v0), (2, v1), (77, v2), (78, v3), (79, v4), (6, v5), (7, v6), (8, v7), (10, v8), (11, v9), (144, v10), (145, v11), (146, v12)] a → P a := by
  rintro a ⟨h1, h2, e0, e1, e2, e3, e4, e5, e6, e7, e8, e9, e10, e11, e12, _⟩
  revert e0 e1 e2 e3 e4 e5 e6 e7 e8 e9 e10 e11 e12
  refine frame_mr (P := fun a => a.tmps.toList[1]? = some v0 → a.tmps.toList[2]? = some v1 → a.tmps.toList[77]? = some v2 → a.tmps.toList[78]? = some v3 → a.tmps.toList[79]? = some v4 → a.tmps.toList[6]? = some v5 → a.tmps.toList[7]? = some v6 → a.tmps.toList[8]? = some v7 → a.tmps.toList[10]? = some v8 → a.tmps.toList[11]? = some v9 → a.tmps.toList[144]? = some v10 → a.tmps.toList[145]? = some v11 → a.tmps.toList[146]? = some v12 → P a) ?_ a h1 h2
  intro x0 x1 x2 x3 x4 x5 x6 x7 x8 x9 x10 x11 x12 x13 x14 x15 x16 x17 x18 x19 x20 x21 x22 x23 x24 x25 x26 x27 x28 x29 x30 x31 x32 x33 x34 x35 x36 x37 x38 x39 x40 x41 x42 x43 x44 x45 x46 x47 x48 x49 x50 x51 x52 x53 x54 x55 x56 x57 x58 x59 x60 x61 x62 x63 x64 x65 x66 x67 x68 x69 x70 x71 x72 x73 x74 x75 x76 x77 x78 x79 x80 x81 x82 x83 x84 x85 x86 x87 x88 x89 x90 x91 x92 x93 x94 x95 x96 x97 x98 x99 x100 x101 x102 x103 x104 x105 x106 x107 x108 x109 x110 x111 x112 x113 x114 x115 x116 x117 x118 x119 x120 x121 x122 x123 x124 x125 x126 x127 x128 x129 x130 x131 x132 x133 x134 x135 x136 x137 x138 x139 x140 x141 x142 x143 x144 x145 x146 x147 x148 x149 x150 x151 x152 x153 x154 x155 x156 x157 x158 x159 x160 x161 x162 x163 x164 x165 x166 x167 x168 x169 x170 x171 x172 x173 x174 x175 x176 x177 x178 x179 x180 x181 x182 x183 x184 x185 x186 x187 e0 e1 e2 e3 e4 e5 e6 e7 e8 e9 e10 e11 e12
  obtain rfl : x1 = v0 := Option.some.inj e0
  obtain rfl : x2 = v1 := Option.some.inj e1
  obtain rfl : x77 = v2 := Option.some.inj e2
  obtain rfl : x78 = v3 := Option.some.inj e3
  obtain rfl : x79 = v4 := Option.some.inj e4
  obtain rfl : x6 = v5 := Option.some.inj e5
  obtain rfl : x7 = v6 := Option.some.inj e6
  obtain rfl : x8 = v7 := Option.some.inj e7
  obtain rfl : x10 = v8 := Option.some.inj e8
  obtain rfl : x11 = v9 := Option.some.inj e9
  obtain rfl : x144 = v10 := Option.some.inj e10
  obtain rfl : x145 = v11 := Option.some.inj e11
  obtain rfl : x146 = v12 := Option.some.inj e12
  exact h x0 x3 x4 x5 x9 x12 x13 x14 x15 x16 x17 x18 x19 x20 x21 x22 x23 x24 x25 x26 x27 x28 x29 x30 x31 x32 x33 x34 x35 x36 x37 x38 x39 x40 x41 x42 x43 x44 x45 x46 x47 x48 x49 x50 x51 x52 x53 x54 x55 x56 x57 x58 x59 x60 x61 x62 x63 x64 x65 x66 x67 x68 x69 x70 x71 x72 x73 x74 x75 x76 x80 x81 x82 x83 x84 x85 x86 x87 x88 x89 x90 x91 x92 x93 x94 x95 x96 x97 x98 x99 x100 x101 x102 x103 x104 x105 x106 x107 x108 x109 x110 x111 x112 x113 x114 x115 x116 x117 x118 x119 x120 x121 x122 x123 x124 x125 x126 x127 x128 x129 x130 x131 x132 x133 x134 x135 x136 x137 x138 x139 x140 x141 x142 x143 x147 x148 x149 x150 x151 x152 x153 x154 x155 x156 x157 x158 x159 x160 x161 x162 x163 x164 x165 x166 x167 x168 x169 x170 x171 x172 x173 x174 x175 x176 x177 x178 x179 x180 x181 x182 x183 x184 x185 x186 x187
set_option maxRecDepth 1000000 in
set_option maxHeartbeats 16000000 in
theorem mr_r37_wp {Q : Exit → Act → World → Prop} {w : World} {rl : List Rel} {d j b o E : Nat} {t2 : Nat} {T2 : Option Addr} {tu : List Int} {q k r : Nat} {wo : World} (hN : ∀ a', Frm 188 [(1, .pointer (some ⟨w.heap.size, 0, none⟩)), (2, .pointer (some ⟨w.heap.size + 1, 0, none⟩)), (77, .slice (some ⟨b, o, none⟩) rl.length d), (78, .int .i64 (rl.length : Nat)), (79, .int .i64 (j : Nat)), (6, .int .i64 (j : Nat)), (7, .pointer (some ⟨E, 0, none⟩)), (8, .int .i64 (k : Nat)), (10, .int .i64 (q : Nat)), (11, .slice T2 tu.length t2), (144, .slice T2 tu.length t2), (145, .int .i64 (tu.length : Nat)), (146, .int .i64 (r : Nat)), (147, .bool (decide (r < tu.length)))] a' → Q .normal a' wo) : ∀ ac, Frm 188 [(1, .pointer (some ⟨w.heap.size, 0, none⟩)), (2, .pointer (some ⟨w.heap.size + 1, 0, none⟩)), (77, .slice (some ⟨b, o, none⟩) rl.length d), (78, .int .i64 (rl.length : Nat)), (79, .int .i64 (j : Nat)), (6, .int .i64 (j : Nat)), (7, .pointer (some ⟨E, 0, none⟩)), (8, .int .i64 (k : Nat)), (10, .int .i64 (q : Nat)), (11, .slice T2 tu.length t2), (144, .slice T2 tu.length t2), (145, .int .i64 (tu.length : Nat)), (146, .int .i64 (r : Nat))] ac → Code.wp Tryd.prog c_mr_r37 Q ac wo := by
  refine open_mr_r37 (P := fun a => Code.wp Tryd.prog c_mr_r37 Q a wo) ?_
  intro x0 x3 x4 x5 x9 x12 x13 x14 x15 x16 x17 x18 x19 x20 x21 x22 x23 x24 x25 x26 x27 x28 x29 x30 x31 x32 x33 x34 x35 x36 x37 x38 x39 x40 x41 x42 x43 x44 x45 x46 x47 x48 x49 x50 x51 x52 x53 x54 x55 x56 x57 x58 x59 x60 x61 x62 x63 x64 x65 x66 x67 x68 x69 x70 x71 x72 x73 x74 x75 x76 x80 x81 x82 x83 x84 x85 x86 x87 x88 x89 x90 x91 x92 x93 x94 x95 x96 x97 x98 x99 x100 x101 x102 x103 x104 x105 x106 x107 x108 x109 x110 x111 x112 x113 x114 x115 x116 x117 x118 x119 x120 x121 x122 x123 x124 x125 x126 x127 x128 x129 x130 x131 x132 x133 x134 x135 x136 x137 x138 x139 x140 x141 x142 x143 x147 x148 x149 x150 x151 x152 x153 x154 x155 x156 x157 x158 x159 x160 x161 x162 x163 x164 x165 x166 x167 x168 x169 x170 x171 x172 x173 x174 x175 x176 x177 x178 x179 x180 x181 x182 x183 x184 x185 x186 x187
  conv => arg 2; whnf
  have HN := Lib.hid hN
  clear hN
  by_cases hq : r < tu.length
  · have q1 : (r : Int) < (tu.length : Int) := by omega
    rw [show decide (r < tu.length) = true from decide_eq_true hq] at HN
    go_wp2_with fail
    exact HN.out _ (id ⟨rfl, rfl, rfl, rfl, rfl, rfl, rfl, rfl, rfl, rfl, rfl, rfl, rfl, rfl, rfl, rfl, trivial⟩)
  · have q1 : ¬ (r : Int) < (tu.length : Int) := by omega
    rw [show decide (r < tu.length) = false from decide_eq_false hq] at HN
    go_wp2_with fail
    exact HN.out _ (id ⟨rfl, rfl, rfl, rfl, rfl, rfl, rfl, rfl, rfl, rfl, rfl, rfl, rfl, rfl, rfl, rfl, trivial⟩)
noncomputable def c_mr_r38 : Code := sub [1, 1, 1, 1, 0, 1, 0, 0, 1, 1, 0, 0, 1, 1, 1, 0, 1, 0, 0, 1, 0, 0, 1, 1, 0, 1, 0, 0, 1, 1, 0, 0, 0] (Tryd.f8.body.getD .skip)
set_option maxRecDepth 1000000 in
theorem open_mr_r38 {P : Act → Prop} {v0 v1 v2 v3 v4 v5 v6 v7 v8 v9 v10 v11 v12 : Value} (h : ∀ x0 x3 x4 x5 x9 x12 x13 x14 x15 x16 x17 x18 x19 x20 x21 x22 x23 x24 x25 x26 x27 x28 x29 x30 x31 x32 x33 x34 x35 x36 x37 x38 x39 x40 x41 x42 x43 x44 x45 x46 x47 x48 x49 x50 x51 x52 x53 x54 x55 x56 x57 x58 x59 x60 x61 x62 x63 x64 x65 x66 x67 x68 x69 x70 x71 x72 x73 x74 x75 x76 x80 x81 x82 x83 x84 x85 x86 x87 x88 x89 x90 x91 x92 x93 x94 x95 x96 x97 x98 x99 x100 x101 x102 x103 x104 x105 x106 x107 x108 x109 x110 x111 x112 x113 x114 x115 x116 x117 x118 x119 x120 x121 x122 x123 x124 x125 x126 x127 x128 x129 x130 x131 x132 x133 x134 x135 x136 x137 x138 x139 x140 x141 x142 x143 x147 x148 x149 x150 x151 x152 x153 x154 x155 x156 x157 x158 x159 x160 x161 x162 x163 x164 x165 x166 x167 x168 x169 x170 x171 x172 x173 x174 x175 x176 x177 x178 x179 x180 x181 x182 x183 x184 x185 x186 x187 : Value, P ⟨(x0 :: v0 :: v1 :: x3 :: x4 :: x5 :: v5 :: v6 :: v7 :: x9 :: v8 :: v9 :: x12 :: x13 :: x14 :: x15 :: x16 :: x17 :: x18 :: x19 :: x20 :: x21 :: x22 :: x23 :: x24 :: x25 :: x26 :: x27 :: x28 :: x29 :: x30 :: x31 :: x32 :: x33 :: x34 :: x35 :: x36 :: x37 :: x38 :: x39 :: x40 :: x41 :: x42 :: x43 :: x44 :: x45 :: x46 :: x47 :: x48 :: x49 :: x50 :: x51 :: x52 :: x53 :: x54 :: x55 :: x56 :: x57 :: x58 :: x59 :: x60 :: x61 :: x62 :: x63 :: x64 :: x65 :: x66 :: x67 :: x68 :: x69 :: x70 :: x71 :: x72 :: x73 :: x74 :: x75 :: x76 :: v2 :: v3 :: v4 :: x80 :: x81 :: x82 :: x83 :: x84 :: x85 :: x86 :: x87 :: x88 :: x89 :: x90 :: x91 :: x92 :: x93 :: x94 :: x95 :: x96 :: x97 :: x98 :: x99 :: x100 :: x101 :: x102 :: x103 :: x104 :: x105 :: x106 :: x107 :: x108 :: x109 :: x110 :: x111 :: x112 :: x113 :: x114 :: x115 :: x116 :: x117 :: x118 :: x119 :: x120 :: x121 :: x122 :: x123 :: x124 :: x125 :: x126 :: x127 :: x128 :: x129 :: x130 :: x131 :: x132 :: x133 :: x134 :: x135 :: x136 :: x137 :: x138 :: x139 :: x140 :: x141 :: x142 :: x143 :: v10 :: v11 :: v12 :: x147 :: x148 :: x149 :: x150 :: x151 :: x152 :: x153 :: x154 :: x155 :: x156 :: x157 :: x158 :: x159 :: x160 :: x161 :: x162 :: x163 :: x164 :: x165 :: x166 :: x167 :: x168 :: x169 :: x170 :: x171 :: x172 :: x173 :: x174 :: x175 :: x176 :: x177 :: x178 :: x179 :: x180 :: x181 :: x182 :: x183 :: x184 :: x185 :: x186 :: x187 :: []).toArray, []⟩) : ∀ a, Frm 188 [(1, v0), (2, v1), (77, v2), (78, v3), (79, v4), (6, v5), (7, v6), (8, v7), (10, v8), (11, v9), (144, v10), (145, v11), (146, v12)] a → P a := by
  rintro a ⟨h1, h2, e0, e1, e2, e3, e4, e5, e6, e7, e8, e9, e10, e11, e12, _⟩
  revert e0 e1 e2 e3 e4 e5 e6 e7 e8 e9 e10 e11 e12
  refine frame_mr (P := fun a => a.tmps.toList[1]? = some v0 → a.tmps.toList[2]? = some v1 → a.tmps.toList[77]? = some v2 → a.tmps.toList[78]? = some v3 → a.tmps.toList[79]? = some v4 → a.tmps.toList[6]? = some v5 → a.tmps.toList[7]? = some v6 → a.tmps.toList[8]? = some v7 → a.tmps.toList[10]? = some v8 → a.tmps.toList[11]? = some v9 → a.tmps.toList[144]? = some v10 → a.tmps.toList[145]? = some v11 → a.tmps.toList[146]? = some v12 → P a) ?_ a h1 h2
  intro x0 x1 x2 x3 x4 x5 x6 x7 x8 x9 x10 x11 x12 x13 x14 x15 x16 x17 x18 x19 x20 x21 x22 x23 x24 x25 x26 x27 x28 x29 x30 x31 x32 x33 x34 x35 x36 x37 x38 x39 x40 x41 x42 x43 x44 x45 x46 x47 x48 x49 x50 x51 x52 x53 x54 x55 x56 x57 x58 x59 x60 x61 x62 x63 x64 x65 x66 x67 x68 x69 x70 x71 x72 x73 x74 x75 x76 x77 x78 x79 x80 x81 x82 x83 x84 x85 x86 x87 x88 x89 x90 x91 x92 x93 x94 x95 x96 x97 x98 x99 x100 x101 x102 x103 x104 x105 x106 x107 x108 x109 x110 x111 x112 x113 x114 x115 x116 x117 x118 x119 x120 x121 x122 x123 x124 x125 x126 x127 x128 x129 x130 x131 x132 x133 x134 x135 x136 x137 x138 x139 x140 x141 x142 x143 x144 x145 x146 x147 x148 x149 x150 x151 x152 x153 x154 x155 x156 x157 x158 x159 x160 x161 x162 x163 x164 x165 x166 x167 x168 x169 x170 x171 x172 x173 x174 x175 x176 x177 x178 x179 x180 x181 x182 x183 x184 x185 x186 x187 e0 e1 e2 e3 e4 e5 e6 e7 e8 e9 e10 e11 e12
  obtain rfl : x1 = v0 := Option.some.inj e0
  obtain rfl : x2 = v1 := Option.some.inj e1
  obtain rfl : x77 = v2 := Option.some.inj e2
  obtain rfl : x78 = v3 := Option.some.inj e3
  obtain rfl : x79 = v4 := Option.some.inj e4
  obtain rfl : x6 = v5 := Option.some.inj e5
  obtain rfl : x7 = v6 := Option.some.inj e6
  obtain rfl : x8 = v7 := Option.some.inj e7
  obtain rfl : x10 = v8 := Option.some.inj e8
  obtain rfl : x11 = v9 := Option.some.inj e9
  obtain rfl : x144 = v10 := Option.some.inj e10
  obtain rfl : x145 = v11 := Option.some.inj e11
  obtain rfl : x146 = v12 := Option.some.inj e12
  exact h x0 x3 x4 x5 x9 x12 x13 x14 x15 x16 x17 x18 x19 x20 x21 x22 x23 x24 x25 x26 x27 x28 x29 x30 x31 x32 x33 x34 x35 x36 x37 x38 x39 x40 x41 x42 x43 x44 x45 x46 x47 x48 x49 x50 x51 x52 x53 x54 x55 x56 x57 x58 x59 x60 x61 x62 x63 x64 x65 x66 x67 x68 x69 x70 x71 x72 x73 x74 x75 x76 x80 x81 x82 x83 x84 x85 x86 x87 x88 x89 x90 x91 x92 x93 x94 x95 x96 x97 x98 x99 x100 x101 x102 x103 x104 x105 x106 x107 x108 x109 x110 x111 x112 x113 x114 x115 x116 x117 x118 x119 x120 x121 x122 x123 x124 x125 x126 x127 x128 x129 x130 x131 x132 x133 x134 x135 x136 x137 x138 x139 x140 x141 x142 x143 x147 x148 x149 x150 x151 x152 x153 x154 x155 x156 x157 x158 x159 x160 x161 x162 x163 x164 x165 x166 x167 x168 x169 x170 x171 x172 x173 x174 x175 x176 x177 x178 x179 x180 x181 x182 x183 x184 x185 x186 x187
set_option maxRecDepth 1000000 in
set_option maxHeartbeats 16000000 in
theorem mr_r38_wp {Q : Exit → Act → World → Prop} {w : World} {rl : List Rel} {d j b o E : Nat} {t2 : Nat} {b3 o3 : Nat} {tu : List Int} {q k r : Nat} {v : Int} {wo : World} (hr : r < tu.length) (hb3 : b3 < wo.heap.size) (e0 : wo.cell? ⟨b3, o3 + r, none⟩ = some (.int .i64 v)) (hN : ∀ a', Frm 188 [(1, .pointer (some ⟨w.heap.size, 0, none⟩)), (2, .pointer (some ⟨w.heap.size + 1, 0, none⟩)), (77, .slice (some ⟨b, o, none⟩) rl.length d), (78, .int .i64 (rl.length : Nat)), (79, .int .i64 (j : Nat)), (6, .int .i64 (j : Nat)), (7, .pointer (some ⟨E, 0, none⟩)), (8, .int .i64 (k : Nat)), (10, .int .i64 (q : Nat)), (11, .slice (some ⟨b3, o3, none⟩) tu.length t2), (144, .slice (some ⟨b3, o3, none⟩) tu.length t2), (145, .int .i64 (tu.length : Nat)), (146, .int .i64 (r : Nat)), (13, .int .i64 v)] a' → Q .normal a' wo) : ∀ ac, Frm 188 [(1, .pointer (some ⟨w.heap.size, 0, none⟩)), (2, .pointer (some ⟨w.heap.size + 1, 0, none⟩)), (77, .slice (some ⟨b, o, none⟩) rl.length d), (78, .int .i64 (rl.length : Nat)), (79, .int .i64 (j : Nat)), (6, .int .i64 (j : Nat)), (7, .pointer (some ⟨E, 0, none⟩)), (8, .int .i64 (k : Nat)), (10, .int .i64 (q : Nat)), (11, .slice (some ⟨b3, o3, none⟩) tu.length t2), (144, .slice (some ⟨b3, o3, none⟩) tu.length t2), (145, .int .i64 (tu.length : Nat)), (146, .int .i64 (r : Nat))] ac → Code.wp Tryd.prog c_mr_r38 Q ac wo := by
  refine open_mr_r38 (P := fun a => Code.wp Tryd.prog c_mr_r38 Q a wo) ?_
  intro x0 x3 x4 x5 x9 x12 x13 x14 x15 x16 x17 x18 x19 x20 x21 x22 x23 x24 x25 x26 x27 x28 x29 x30 x31 x32 x33 x34 x35 x36 x37 x38 x39 x40 x41 x42 x43 x44 x45 x46 x47 x48 x49 x50 x51 x52 x53 x54 x55 x56 x57 x58 x59 x60 x61 x62 x63 x64 x65 x66 x67 x68 x69 x70 x71 x72 x73 x74 x75 x76 x80 x81 x82 x83 x84 x85 x86 x87 x88 x89 x90 x91 x92 x93 x94 x95 x96 x97 x98 x99 x100 x101 x102 x103 x104 x105 x106 x107 x108 x109 x110 x111 x112 x113 x114 x115 x116 x117 x118 x119 x120 x121 x122 x123 x124 x125 x126 x127 x128 x129 x130 x131 x132 x133 x134 x135 x136 x137 x138 x139 x140 x141 x142 x143 x147 x148 x149 x150 x151 x152 x153 x154 x155 x156 x157 x158 x159 x160 x161 x162 x163 x164 x165 x166 x167 x168 x169 x170 x171 x172 x173 x174 x175 x176 x177 x178 x179 x180 x181 x182 x183 x184 x185 x186 x187
  conv => arg 2; whnf
  have HN := Lib.hid hN
  clear hN
  have q0 : (0 : Int) ≤ (r : Int) := by omega
  have q1 : (r : Int) < (tu.length : Int) := by omega
  go_wp2_with fail
  exact HN.out _ (id ⟨rfl, rfl, rfl, rfl, rfl, rfl, rfl, rfl, rfl, rfl, rfl, rfl, rfl, rfl, rfl, rfl, trivial⟩)
noncomputable def c_mr_r39 : Code := sub [1, 1, 1, 1, 0, 1, 0, 0, 1, 1, 0, 0, 1, 1, 1, 0, 1, 0, 0, 1, 0, 0, 1, 1, 0, 1, 0, 0, 1, 1, 0, 0, 1, 0] (Tryd.f8.body.getD .skip)
set_option maxRecDepth 1000000 in
theorem open_mr_r39 {P : Act → Prop} {v0 v1 v2 v3 v4 v5 v6 v7 v8 v9 v10 v11 v12 v13 : Value} (h : ∀ x0 x3 x4 x5 x9 x12 x14 x15 x16 x17 x18 x19 x20 x21 x22 x23 x24 x25 x26 x27 x28 x29 x30 x31 x32 x33 x34 x35 x36 x37 x38 x39 x40 x41 x42 x43 x44 x45 x46 x47 x48 x49 x50 x51 x52 x53 x54 x55 x56 x57 x58 x59 x60 x61 x62 x63 x64 x65 x66 x67 x68 x69 x70 x71 x72 x73 x74 x75 x76 x80 x81 x82 x83 x84 x85 x86 x87 x88 x89 x90 x91 x92 x93 x94 x95 x96 x97 x98 x99 x100 x101 x102 x103 x104 x105 x106 x107 x108 x109 x110 x111 x112 x113 x114 x115 x116 x117 x118 x119 x120 x121 x122 x123 x124 x125 x126 x127 x128 x129 x130 x131 x132 x133 x134 x135 x136 x137 x138 x139 x140 x141 x142 x143 x147 x148 x149 x150 x151 x152 x153 x154 x155 x156 x157 x158 x159 x160 x161 x162 x163 x164 x165 x166 x167 x168 x169 x170 x171 x172 x173 x174 x175 x176 x177 x178 x179 x180 x181 x182 x183 x184 x185 x186 x187 : Value, P ⟨(x0 :: v0 :: v1 :: x3 :: x4 :: x5 :: v5 :: v6 :: v7 :: x9 :: v8 :: v9 :: x12 :: v13 :: x14 :: x15 :: x16 :: x17 :: x18 :: x19 :: x20 :: x21 :: x22 :: x23 :: x24 :: x25 :: x26 :: x27 :: x28 :: x29 :: x30 :: x31 :: x32 :: x33 :: x34 :: x35 :: x36 :: x37 :: x38 :: x39 :: x40 :: x41 :: x42 :: x43 :: x44 :: x45 :: x46 :: x47 :: x48 :: x49 :: x50 :: x51 :: x52 :: x53 :: x54 :: x55 :: x56 :: x57 :: x58 :: x59 :: x60 :: x61 :: x62 :: x63 :: x64 :: x65 :: x66 :: x67 :: x68 :: x69 :: x70 :: x71 :: x72 :: x73 :: x74 :: x75 :: x76 :: v2 :: v3 :: v4 :: x80 :: x81 :: x82 :: x83 :: x84 :: x85 :: x86 :: x87 :: x88 :: x89 :: x90 :: x91 :: x92 :: x93 :: x94 :: x95 :: x96 :: x97 :: x98 :: x99 :: x100 :: x101 :: x102 :: x103 :: x104 :: x105 :: x106 :: x107 :: x108 :: x109 :: x110 :: x111 :: x112 :: x113 :: x114 :: x115 :: x116 :: x117 :: x118 :: x119 :: x120 :: x121 :: x122 :: x123 :: x124 :: x125 :: x126 :: x127 :: x128 :: x129 :: x130 :: x131 :: x132 :: x133 :: x134 :: x135 :: x136 :: x137 :: x138 :: x139 :: x140 :: x141 :: x142 :: x143 :: v10 :: v11 :: v12 :: x147 :: x148 :: x149 :: x150 :: x151 :: x152 :: x153 :: x154 :: x155 :: x156 :: x157 :: x158 :: x159 :: x160 :: x161 :: x162 :: x163 :: x164 :: x165 :: x166 :: x167 :: x168 :: x169 :: x170 :: x171 :: x172 :: x173 :: x174 :: x175 :: x176 :: x177 :: x178 :: x179 :: x180 :: x181 :: x182 :: x183 :: x184 :: x185 :: x186 :: x187 :: []).toArray, []⟩) : ∀ a, Frm 188 [(1, v0), (2, v1), (77, v2), (78, v3), (79, v4), (6, v5), (7, v6), (8, v7), (10, v8), (11, v9), (144, v10), (145, v11), (146, v12), (13, v13)] a → P a := by
  rintro a ⟨h1, h2, e0, e1, e2, e3, e4, e5, e6, e7, e8, e9, e10, e11, e12, e13, _⟩
  revert e0 e1 e2 e3 e4 e5 e6 e7 e8 e9 e10 e11 e12 e13
  refine frame_mr (P := fun a => a.tmps.toList[1]? = some v0 → a.tmps.toList[2]? = some v1 → a.tmps.toList[77]? = some v2 → a.tmps.toList[78]? = some v3 → a.tmps.toList[79]? = some v4 → a.tmps.toList[6]? = some v5 → a.tmps.toList[7]? = some v6 → a.tmps.toList[8]? = some v7 → a.tmps.toList[10]? = some v8 → a.tmps.toList[11]? = some v9 → a.tmps.toList[144]? = some v10 → a.tmps.toList[145]? = some v11 → a.tmps.toList[146]? = some v12 → a.tmps.toList[13]? = some v13 → P a) ?_ a h1 h2
  intro x0 x1 x2 x3 x4 x5 x6 x7 x8 x9 x10 x11 x12 x13 x14 x15 x16 x17 x18 x19 x20 x21 x22 x23 x24 x25 x26 x27 x28 x29 x30 x31 x32 x33 x34 x35 x36 x37 x38 x39 x40 x41 x42 x43 x44 x45 x46 x47 x48 x49 x50 x51 x52 x53 x54 x55 x56 x57 x58 x59 x60 x61 x62 x63 x64 x65 x66 x67 x68 x69 x70 x71 x72 x73 x74 x75 x76 x77 x78 x79 x80 x81 x82 x83 x84 x85 x86 x87 x88 x89 x90 x91 x92 x93 x94 x95 x96 x97 x98 x99 x100 x101 x102 x103 x104 x105 x106 x107 x108 x109 x110 x111 x112 x113 x114 x115 x116 x117 x118 x119 x120 x121 x122 x123 x124 x125 x126 x127 x128 x129 x130 x131 x132 x133 x134 x135 x136 x137 x138 x139 x140 x141 x142 x143 x144 x145 x146 x147 x148 x149 x150 x151 x152 x153 x154 x155 x156 x157 x158 x159 x160 x161 x162 x163 x164 x165 x166 x167 x168 x169 x170 x171 x172 x173 x174 x175 x176 x177 x178 x179 x180 x181 x182 x183 x184 x185 x186 x187 e0 e1 e2 e3 e4 e5 e6 e7 e8 e9 e10 e11 e12 e13
  obtain rfl : x1 = v0 := Option.some.inj e0
  obtain rfl : x2 = v1 := Option.some.inj e1
  obtain rfl : x77 = v2 := Option.some.inj e2
  obtain rfl : x78 = v3 := Option.some.inj e3
  obtain rfl : x79 = v4 := Option.some.inj e4
  obtain rfl : x6 = v5 := Option.some.inj e5
  obtain rfl : x7 = v6 := Option.some.inj e6
  obtain rfl : x8 = v7 := Option.some.inj e7
  obtain rfl : x10 = v8 := Option.some.inj e8
  obtain rfl : x11 = v9 := Option.some.inj e9
  obtain rfl : x144 = v10 := Option.some.inj e10
  obtain rfl : x145 = v11 := Option.some.inj e11
  obtain rfl : x146 = v12 := Option.some.inj e12
  obtain rfl : x13 = v13 := Option.some.inj e13
  exact h x0 x3 x4 x5 x9 x12 x14 x15 x16 x17 x18 x19 x20 x21 x22 x23 x24 x25 x26 x27 x28 x29 x30 x31 x32 x33 x34 x35 x36 x37 x38 x39 x40 x41 x42 x43 x44 x45 x46 x47 x48 x49 x50 x51 x52 x53 x54 x55 x56 x57 x58 x59 x60 x61 x62 x63 x64 x65 x66 x67 x68 x69 x70 x71 x72 x73 x74 x75 x76 x80 x81 x82 x83 x84 x85 x86 x87 x88 x89 x90 x91 x92 x93 x94 x95 x96 x97 x98 x99 x100 x101 x102 x103 x104 x105 x106 x107 x108 x109 x110 x111 x112 x113 x114 x115 x116 x117 x118 x119 x120 x121 x122 x123 x124 x125 x126 x127 x128 x129 x130 x131 x132 x133 x134 x135 x136 x137 x138 x139 x140 x141 x142 x143 x147 x148 x149 x150 x151 x152 x153 x154 x155 x156 x157 x158 x159 x160 x161 x162 x163 x164 x165 x166 x167 x168 x169 x170 x171 x172 x173 x174 x175 x176 x177 x178 x179 x180 x181 x182 x183 x184 x185 x186 x187
set_option maxRecDepth 1000000 in
set_option maxHeartbeats 16000000 in
theorem mr_r39_wp {Q : Exit → Act → World → Prop} {w : World} {rl : List Rel} {d j b o E : Nat} {t2 : Nat} {T2 : Option Addr} {tu : List Int} {sz : Int} {cl : List Con} {A : Option Addr} {c : Nat} {q k r : Nat} {v : Int} {wo : World} (hp0 : wo.heap[w.heap.size]? = some (.cells #[.int .i64 sz, .slice A cl.length c, .slice (some ⟨b, o, none⟩) rl.length d] 25 (0, 0))) (hN : ∀ a', Frm 188 [(1, .pointer (some ⟨w.heap.size, 0, none⟩)), (2, .pointer (some ⟨w.heap.size + 1, 0, none⟩)), (77, .slice (some ⟨b, o, none⟩) rl.length d), (78, .int .i64 (rl.length : Nat)), (79, .int .i64 (j : Nat)), (6, .int .i64 (j : Nat)), (7, .pointer (some ⟨E, 0, none⟩)), (8, .int .i64 (k : Nat)), (10, .int .i64 (q : Nat)), (11, .slice T2 tu.length t2), (144, .slice T2 tu.length t2), (145, .int .i64 (tu.length : Nat)), (146, .int .i64 (r : Nat)), (157, .bool (badV sz v))] a' → Q .normal a' wo) : ∀ ac, Frm 188 [(1, .pointer (some ⟨w.heap.size, 0, none⟩)), (2, .pointer (some ⟨w.heap.size + 1, 0, none⟩)), (77, .slice (some ⟨b, o, none⟩) rl.length d), (78, .int .i64 (rl.length : Nat)), (79, .int .i64 (j : Nat)), (6, .int .i64 (j : Nat)), (7, .pointer (some ⟨E, 0, none⟩)), (8, .int .i64 (k : Nat)), (10, .int .i64 (q : Nat)), (11, .slice T2 tu.length t2), (144, .slice T2 tu.length t2), (145, .int .i64 (tu.length : Nat)), (146, .int .i64 (r : Nat)), (13, .int .i64 v)] ac → Code.wp Tryd.prog c_mr_r39 Q ac wo := by
  refine open_mr_r39 (P := fun a => Code.wp Tryd.prog c_mr_r39 Q a wo) ?_
  intro x0 x3 x4 x5 x9 x12 x14 x15 x16 x17 x18 x19 x20 x21 x22 x23 x24 x25 x26 x27 x28 x29 x30 x31 x32 x33 x34 x35 x36 x37 x38 x39 x40 x41 x42 x43 x44 x45 x46 x47 x48 x49 x50 x51 x52 x53 x54 x55 x56 x57 x58 x59 x60 x61 x62 x63 x64 x65 x66 x67 x68 x69 x70 x71 x72 x73 x74 x75 x76 x80 x81 x82 x83 x84 x85 x86 x87 x88 x89 x90 x91 x92 x93 x94 x95 x96 x97 x98 x99 x100 x101 x102 x103 x104 x105 x106 x107 x108 x109 x110 x111 x112 x113 x114 x115 x116 x117 x118 x119 x120 x121 x122 x123 x124 x125 x126 x127 x128 x129 x130 x131 x132 x133 x134 x135 x136 x137 x138 x139 x140 x141 x142 x143 x147 x148 x149 x150 x151 x152 x153 x154 x155 x156 x157 x158 x159 x160 x161 x162 x163 x164 x165 x166 x167 x168 x169 x170 x171 x172 x173 x174 x175 x176 x177 x178 x179 x180 x181 x182 x183 x184 x185 x186 x187
  conv => arg 2; whnf
  have HN := Lib.hid hN
  clear hN
  have p0 := hp0
  clear hp0
  have p0_0 := cv0 p0
  have p0_1 := cv1 p0
  have p0_2 := cv2 p0
  have p0_l := lt_heap p0
  have P0 := Lib.hid p0
  clear p0
  by_cases hv : v < 0 ∨ sz ≤ v
  · have hbv : badV sz v = true := by simp only [badV, decide_eq_true_eq]; exact hv
    have hv2 : v < 0 ∨ (¬ v < 0 ∧ sz ≤ v) := by omega
    rw [hbv] at HN
    clear hv hbv
    rcases hv2 with q5 | ⟨q5, q6⟩
    all_goals
      go_wp2_with fail
      exact HN.out _ (id ⟨rfl, rfl, rfl, rfl, rfl, rfl, rfl, rfl, rfl, rfl, rfl, rfl, rfl, rfl, rfl, rfl, trivial⟩)
  · have hbv : badV sz v = false := by simp only [badV, decide_eq_false_iff_not]; exact hv
    have q5 : ¬ v < 0 := by omega
    have q6 : ¬ sz ≤ v := by omega
    rw [hbv] at HN
    clear hv hbv
    go_wp2_with fail
    exact HN.out _ (id ⟨rfl, rfl, rfl, rfl, rfl, rfl, rfl, rfl, rfl, rfl, rfl, rfl, rfl, rfl, rfl, rfl, trivial⟩)
noncomputable def c_mr_r40 : Code := sub [1, 1, 1, 1, 0, 1, 0, 0, 1, 1, 0, 0, 1, 1, 1, 0, 1, 0, 0, 1, 0, 0, 1, 1, 0, 1, 0, 0, 1, 1, 0, 0, 1, 1, 0] (Tryd.f8.body.getD .skip)
set_option maxRecDepth 1000000 in
theorem open_mr_r40 {P : Act → Prop} {v0 v1 v2 v3 v4 v5 v6 v7 v8 v9 v10 v11 v12 : Value} (h : ∀ x0 x3 x4 x5 x9 x12 x13 x14 x15 x16 x17 x18 x19 x20 x21 x22 x23 x24 x25 x26 x27 x28 x29 x30 x31 x32 x33 x34 x35 x36 x37 x38 x39 x40 x41 x42 x43 x44 x45 x46 x47 x48 x49 x50 x51 x52 x53 x54 x55 x56 x57 x58 x59 x60 x61 x62 x63 x64 x65 x66 x67 x68 x69 x70 x71 x72 x73 x74 x75 x76 x80 x81 x82 x83 x84 x85 x86 x87 x88 x89 x90 x91 x92 x93 x94 x95 x96 x97 x98 x99 x100 x101 x102 x103 x104 x105 x106 x107 x108 x109 x110 x111 x112 x113 x114 x115 x116 x117 x118 x119 x120 x121 x122 x123 x124 x125 x126 x127 x128 x129 x130 x131 x132 x133 x134 x135 x136 x137 x138 x139 x140 x141 x142 x143 x147 x148 x149 x150 x151 x152 x153 x154 x155 x156 x157 x158 x159 x160 x161 x162 x163 x164 x165 x166 x167 x168 x169 x170 x171 x172 x173 x174 x175 x176 x177 x178 x179 x180 x181 x182 x183 x184 x185 x186 x187 : Value, P ⟨(x0 :: v0 :: v1 :: x3 :: x4 :: x5 :: v5 :: v6 :: v7 :: x9 :: v8 :: v9 :: x12 :: x13 :: x14 :: x15 :: x16 :: x17 :: x18 :: x19 :: x20 :: x21 :: x22 :: x23 :: x24 :: x25 :: x26 :: x27 :: x28 :: x29 :: x30 :: x31 :: x32 :: x33 :: x34 :: x35 :: x36 :: x37 :: x38 :: x39 :: x40 :: x41 :: x42 :: x43 :: x44 :: x45 :: x46 :: x47 :: x48 :: x49 :: x50 :: x51 :: x52 :: x53 :: x54 :: x55 :: x56 :: x57 :: x58 :: x59 :: x60 :: x61 :: x62 :: x63 :: x64 :: x65 :: x66 :: x67 :: x68 :: x69 :: x70 :: x71 :: x72 :: x73 :: x74 :: x75 :: x76 :: v2 :: v3 :: v4 :: x80 :: x81 :: x82 :: x83 :: x84 :: x85 :: x86 :: x87 :: x88 :: x89 :: x90 :: x91 :: x92 :: x93 :: x94 :: x95 :: x96 :: x97 :: x98 :: x99 :: x100 :: x101 :: x102 :: x103 :: x104 :: x105 :: x106 :: x107 :: x108 :: x109 :: x110 :: x111 :: x112 :: x113 :: x114 :: x115 :: x116 :: x117 :: x118 :: x119 :: x120 :: x121 :: x122 :: x123 :: x124 :: x125 :: x126 :: x127 :: x128 :: x129 :: x130 :: x131 :: x132 :: x133 :: x134 :: x135 :: x136 :: x137 :: x138 :: x139 :: x140 :: x141 :: x142 :: x143 :: v10 :: v11 :: v12 :: x147 :: x148 :: x149 :: x150 :: x151 :: x152 :: x153 :: x154 :: x155 :: x156 :: x157 :: x158 :: x159 :: x160 :: x161 :: x162 :: x163 :: x164 :: x165 :: x166 :: x167 :: x168 :: x169 :: x170 :: x171 :: x172 :: x173 :: x174 :: x175 :: x176 :: x177 :: x178 :: x179 :: x180 :: x181 :: x182 :: x183 :: x184 :: x185 :: x186 :: x187 :: []).toArray, []⟩) : ∀ a, Frm 188 [(1, v0), (2, v1), (77, v2), (78, v3), (79, v4), (6, v5), (7, v6), (8, v7), (10, v8), (11, v9), (144, v10), (145, v11), (146, v12)] a → P a := by
  rintro a ⟨h1, h2, e0, e1, e2, e3, e4, e5, e6, e7, e8, e9, e10, e11, e12, _⟩
  revert e0 e1 e2 e3 e4 e5 e6 e7 e8 e9 e10 e11 e12
  refine frame_mr (P := fun a => a.tmps.toList[1]? = some v0 → a.tmps.toList[2]? = some v1 → a.tmps.toList[77]? = some v2 → a.tmps.toList[78]? = some v3 → a.tmps.toList[79]? = some v4 → a.tmps.toList[6]? = some v5 → a.tmps.toList[7]? = some v6 → a.tmps.toList[8]? = some v7 → a.tmps.toList[10]? = some v8 → a.tmps.toList[11]? = some v9 → a.tmps.toList[144]? = some v10 → a.tmps.toList[145]? = some v11 → a.tmps.toList[146]? = some v12 → P a) ?_ a h1 h2
  intro x0 x1 x2 x3 x4 x5 x6 x7 x8 x9 x10 x11 x12 x13 x14 x15 x16 x17 x18 x19 x20 x21 x22 x23 x24 x25 x26 x27 x28 x29 x30 x31 x32 x33 x34 x35 x36 x37 x38 x39 x40 x41 x42 x43 x44 x45 x46 x47 x48 x49 x50 x51 x52 x53 x54 x55 x56 x57 x58 x59 x60 x61 x62 x63 x64 x65 x66 x67 x68 x69 x70 x71 x72 x73 x74 x75 x76 x77 x78 x79 x80 x81 x82 x83 x84 x85 x86 x87 x88 x89 x90 x91 x92 x93 x94 x95 x96 x97 x98 x99 x100 x101 x102 x103 x104 x105 x106 x107 x108 x109 x110 x111 x112 x113 x114 x115 x116 x117 x118 x119 x120 x121 x122 x123 x124 x125 x126 x127 x128 x129 x130 x131 x132 x133 x134 x135 x136 x137 x138 x139 x140 x141 x142 x143 x144 x145 x146 x147 x148 x149 x150 x151 x152 x153 x154 x155 x156 x157 x158 x159 x160 x161 x162 x163 x164 x165 x166 x167 x168 x169 x170 x171 x172 x173 x174 x175 x176 x177 x178 x179 x180 x181 x182 x183 x184 x185 x186 x187 e0 e1 e2 e3 e4 e5 e6 e7 e8 e9 e10 e11 e12
  obtain rfl : x1 = v0 := Option.some.inj e0
  obtain rfl : x2 = v1 := Option.some.inj e1
  obtain rfl : x77 = v2 := Option.some.inj e2
  obtain rfl : x78 = v3 := Option.some.inj e3
  obtain rfl : x79 = v4 := Option.some.inj e4
  obtain rfl : x6 = v5 := Option.some.inj e5
  obtain rfl : x7 = v6 := Option.some.inj e6
  obtain rfl : x8 = v7 := Option.some.inj e7
  obtain rfl : x10 = v8 := Option.some.inj e8
  obtain rfl : x11 = v9 := Option.some.inj e9
  obtain rfl : x144 = v10 := Option.some.inj e10
  obtain rfl : x145 = v11 := Option.some.inj e11
  obtain rfl : x146 = v12 := Option.some.inj e12
  exact h x0 x3 x4 x5 x9 x12 x13 x14 x15 x16 x17 x18 x19 x20 x21 x22 x23 x24 x25 x26 x27 x28 x29 x30 x31 x32 x33 x34 x35 x36 x37 x38 x39 x40 x41 x42 x43 x44 x45 x46 x47 x48 x49 x50 x51 x52 x53 x54 x55 x56 x57 x58 x59 x60 x61 x62 x63 x64 x65 x66 x67 x68 x69 x70 x71 x72 x73 x74 x75 x76 x80 x81 x82 x83 x84 x85 x86 x87 x88 x89 x90 x91 x92 x93 x94 x95 x96 x97 x98 x99 x100 x101 x102 x103 x104 x105 x106 x107 x108 x109 x110 x111 x112 x113 x114 x115 x116 x117 x118 x119 x120 x121 x122 x123 x124 x125 x126 x127 x128 x129 x130 x131 x132 x133 x134 x135 x136 x137 x138 x139 x140 x141 x142 x143 x147 x148 x149 x150 x151 x152 x153 x154 x155 x156 x157 x158 x159 x160 x161 x162 x163 x164 x165 x166 x167 x168 x169 x170 x171 x172 x173 x174 x175 x176 x177 x178 x179 x180 x181 x182 x183 x184 x185 x186 x187
set_option maxRecDepth 1000000 in
set_option maxHeartbeats 16000000 in
theorem mr_r40_wp {Q : Exit → Act → World → Prop} {w : World} {rl : List Rel} {d j b o E : Nat} {t2 : Nat} {T2 : Option Addr} {tu : List Int} {q k r : Nat} {wo : World} (hN : ∀ a', Frm 188 [(1, .pointer (some ⟨w.heap.size, 0, none⟩)), (2, .pointer (some ⟨w.heap.size + 1, 0, none⟩)), (77, .slice (some ⟨b, o, none⟩) rl.length d), (78, .int .i64 (rl.length : Nat)), (79, .int .i64 (j : Nat)), (6, .int .i64 (j : Nat)), (7, .pointer (some ⟨E, 0, none⟩)), (8, .int .i64 3), (10, .int .i64 (q : Nat)), (11, .slice T2 tu.length t2), (144, .slice T2 tu.length t2), (145, .int .i64 (tu.length : Nat)), (146, .int .i64 (r : Nat))] a' → Q .normal a' wo) : ∀ ac, Frm 188 [(1, .pointer (some ⟨w.heap.size, 0, none⟩)), (2, .pointer (some ⟨w.heap.size + 1, 0, none⟩)), (77, .slice (some ⟨b, o, none⟩) rl.length d), (78, .int .i64 (rl.length : Nat)), (79, .int .i64 (j : Nat)), (6, .int .i64 (j : Nat)), (7, .pointer (some ⟨E, 0, none⟩)), (8, .int .i64 (k : Nat)), (10, .int .i64 (q : Nat)), (11, .slice T2 tu.length t2), (144, .slice T2 tu.length t2), (145, .int .i64 (tu.length : Nat)), (146, .int .i64 (r : Nat))] ac → Code.wp Tryd.prog c_mr_r40 Q ac wo := by
  refine open_mr_r40 (P := fun a => Code.wp Tryd.prog c_mr_r40 Q a wo) ?_
  intro x0 x3 x4 x5 x9 x12 x13 x14 x15 x16 x17 x18 x19 x20 x21 x22 x23 x24 x25 x26 x27 x28 x29 x30 x31 x32 x33 x34 x35 x36 x37 x38 x39 x40 x41 x42 x43 x44 x45 x46 x47 x48 x49 x50 x51 x52 x53 x54 x55 x56 x57 x58 x59 x60 x61 x62 x63 x64 x65 x66 x67 x68 x69 x70 x71 x72 x73 x74 x75 x76 x80 x81 x82 x83 x84 x85 x86 x87 x88 x89 x90 x91 x92 x93 x94 x95 x96 x97 x98 x99 x100 x101 x102 x103 x104 x105 x106 x107 x108 x109 x110 x111 x112 x113 x114 x115 x116 x117 x118 x119 x120 x121 x122 x123 x124 x125 x126 x127 x128 x129 x130 x131 x132 x133 x134 x135 x136 x137 x138 x139 x140 x141 x142 x143 x147 x148 x149 x150 x151 x152 x153 x154 x155 x156 x157 x158 x159 x160 x161 x162 x163 x164 x165 x166 x167 x168 x169 x170 x171 x172 x173 x174 x175 x176 x177 x178 x179 x180 x181 x182 x183 x184 x185 x186 x187
  conv => arg 2; whnf
  have HN := Lib.hid hN
  clear hN
  go_wp2_with fail
  exact HN.out _ (id ⟨rfl, rfl, rfl, rfl, rfl, rfl, rfl, rfl, rfl, rfl, rfl, rfl, rfl, rfl, rfl, trivial⟩)
noncomputable def c_mr_r41 : Code := sub [1, 1, 1, 1, 0, 1, 0, 0, 1, 1, 0, 0, 1, 1, 1, 0, 1, 0, 0, 1, 0, 0, 1, 1, 0, 1, 0, 0, 1, 1, 1] (Tryd.f8.body.getD .skip)
set_option maxRecDepth 1000000 in
theorem open_mr_r41 {P : Act → Prop} {v0 v1 v2 v3 v4 v5 v6 v7 v8 v9 v10 v11 v12 : Value} (h : ∀ x0 x3 x4 x5 x9 x12 x13 x14 x15 x16 x17 x18 x19 x20 x21 x22 x23 x24 x25 x26 x27 x28 x29 x30 x31 x32 x33 x34 x35 x36 x37 x38 x39 x40 x41 x42 x43 x44 x45 x46 x47 x48 x49 x50 x51 x52 x53 x54 x55 x56 x57 x58 x59 x60 x61 x62 x63 x64 x65 x66 x67 x68 x69 x70 x71 x72 x73 x74 x75 x76 x80 x81 x82 x83 x84 x85 x86 x87 x88 x89 x90 x91 x92 x93 x94 x95 x96 x97 x98 x99 x100 x101 x102 x103 x104 x105 x106 x107 x108 x109 x110 x111 x112 x113 x114 x115 x116 x117 x118 x119 x120 x121 x122 x123 x124 x125 x126 x127 x128 x129 x130 x131 x132 x133 x134 x135 x136 x137 x138 x139 x140 x141 x142 x143 x147 x148 x149 x150 x151 x152 x153 x154 x155 x156 x157 x158 x159 x160 x161 x162 x163 x164 x165 x166 x167 x168 x169 x170 x171 x172 x173 x174 x175 x176 x177 x178 x179 x180 x181 x182 x183 x184 x185 x186 x187 : Value, P ⟨(x0 :: v0 :: v1 :: x3 :: x4 :: x5 :: v5 :: v6 :: v7 :: x9 :: v8 :: v9 :: x12 :: x13 :: x14 :: x15 :: x16 :: x17 :: x18 :: x19 :: x20 :: x21 :: x22 :: x23 :: x24 :: x25 :: x26 :: x27 :: x28 :: x29 :: x30 :: x31 :: x32 :: x33 :: x34 :: x35 :: x36 :: x37 :: x38 :: x39 :: x40 :: x41 :: x42 :: x43 :: x44 :: x45 :: x46 :: x47 :: x48 :: x49 :: x50 :: x51 :: x52 :: x53 :: x54 :: x55 :: x56 :: x57 :: x58 :: x59 :: x60 :: x61 :: x62 :: x63 :: x64 :: x65 :: x66 :: x67 :: x68 :: x69 :: x70 :: x71 :: x72 :: x73 :: x74 :: x75 :: x76 :: v2 :: v3 :: v4 :: x80 :: x81 :: x82 :: x83 :: x84 :: x85 :: x86 :: x87 :: x88 :: x89 :: x90 :: x91 :: x92 :: x93 :: x94 :: x95 :: x96 :: x97 :: x98 :: x99 :: x100 :: x101 :: x102 :: x103 :: x104 :: x105 :: x106 :: x107 :: x108 :: x109 :: x110 :: x111 :: x112 :: x113 :: x114 :: x115 :: x116 :: x117 :: x118 :: x119 :: x120 :: x121 :: x122 :: x123 :: x124 :: x125 :: x126 :: x127 :: x128 :: x129 :: x130 :: x131 :: x132 :: x133 :: x134 :: x135 :: x136 :: x137 :: x138 :: x139 :: x140 :: x141 :: x142 :: x143 :: v10 :: v11 :: v12 :: x147 :: x148 :: x149 :: x150 :: x151 :: x152 :: x153 :: x154 :: x155 :: x156 :: x157 :: x158 :: x159 :: x160 :: x161 :: x162 :: x163 :: x164 :: x165 :: x166 :: x167 :: x168 :: x169 :: x170 :: x171 :: x172 :: x173 :: x174 :: x175 :: x176 :: x177 :: x178 :: x179 :: x180 :: x181 :: x182 :: x183 :: x184 :: x185 :: x186 :: x187 :: []).toArray, []⟩) : ∀ a, Frm 188 [(1, v0), (2, v1), (77, v2), (78, v3), (79, v4), (6, v5), (7, v6), (8, v7), (10, v8), (11, v9), (144, v10), (145, v11), (146, v12)] a → P a := by
  rintro a ⟨h1, h2, e0, e1, e2, e3, e4, e5, e6, e7, e8, e9, e10, e11, e12, _⟩
  revert e0 e1 e2 e3 e4 e5 e6 e7 e8 e9 e10 e11 e12
  refine frame_mr (P := fun a => a.tmps.toList[1]? = some v0 → a.tmps.toList[2]? = some v1 → a.tmps.toList[77]? = some v2 → a.tmps.toList[78]? = some v3 → a.tmps.toList[79]? = some v4 → a.tmps.toList[6]? = some v5 → a.tmps.toList[7]? = some v6 → a.tmps.toList[8]? = some v7 → a.tmps.toList[10]? = some v8 → a.tmps.toList[11]? = some v9 → a.tmps.toList[144]? = some v10 → a.tmps.toList[145]? = some v11 → a.tmps.toList[146]? = some v12 → P a) ?_ a h1 h2
  intro x0 x1 x2 x3 x4 x5 x6 x7 x8 x9 x10 x11 x12 x13 x14 x15 x16 x17 x18 x19 x20 x21 x22 x23 x24 x25 x26 x27 x28 x29 x30 x31 x32 x33 x34 x35 x36 x37 x38 x39 x40 x41 x42 x43 x44 x45 x46 x47 x48 x49 x50 x51 x52 x53 x54 x55 x56 x57 x58 x59 x60 x61 x62 x63 x64 x65 x66 x67 x68 x69 x70 x71 x72 x73 x74 x75 x76 x77 x78 x79 x80 x81 x82 x83 x84 x85 x86 x87 x88 x89 x90 x91 x92 x93 x94 x95 x96 x97 x98 x99 x100 x101 x102 x103 x104 x105 x106 x107 x108 x109 x110 x111 x112 x113 x114 x115 x116 x117 x118 x119 x120 x121 x122 x123 x124 x125 x126 x127 x128 x129 x130 x131 x132 x133 x134 x135 x136 x137 x138 x139 x140 x141 x142 x143 x144 x145 x146 x147 x148 x149 x150 x151 x152 x153 x154 x155 x156 x157 x158 x159 x160 x161 x162 x163 x164 x165 x166 x167 x168 x169 x170 x171 x172 x173 x174 x175 x176 x177 x178 x179 x180 x181 x182 x183 x184 x185 x186 x187 e0 e1 e2 e3 e4 e5 e6 e7 e8 e9 e10 e11 e12
  obtain rfl : x1 = v0 := Option.some.inj e0
  obtain rfl : x2 = v1 := Option.some.inj e1
  obtain rfl : x77 = v2 := Option.some.inj e2
  obtain rfl : x78 = v3 := Option.some.inj e3
  obtain rfl : x79 = v4 := Option.some.inj e4
  obtain rfl : x6 = v5 := Option.some.inj e5
  obtain rfl : x7 = v6 := Option.some.inj e6
  obtain rfl : x8 = v7 := Option.some.inj e7
  obtain rfl : x10 = v8 := Option.some.inj e8
  obtain rfl : x11 = v9 := Option.some.inj e9
  obtain rfl : x144 = v10 := Option.some.inj e10
  obtain rfl : x145 = v11 := Option.some.inj e11
  obtain rfl : x146 = v12 := Option.some.inj e12
  exact h x0 x3 x4 x5 x9 x12 x13 x14 x15 x16 x17 x18 x19 x20 x21 x22 x23 x24 x25 x26 x27 x28 x29 x30 x31 x32 x33 x34 x35 x36 x37 x38 x39 x40 x41 x42 x43 x44 x45 x46 x47 x48 x49 x50 x51 x52 x53 x54 x55 x56 x57 x58 x59 x60 x61 x62 x63 x64 x65 x66 x67 x68 x69 x70 x71 x72 x73 x74 x75 x76 x80 x81 x82 x83 x84 x85 x86 x87 x88 x89 x90 x91 x92 x93 x94 x95 x96 x97 x98 x99 x100 x101 x102 x103 x104 x105 x106 x107 x108 x109 x110 x111 x112 x113 x114 x115 x116 x117 x118 x119 x120 x121 x122 x123 x124 x125 x126 x127 x128 x129 x130 x131 x132 x133 x134 x135 x136 x137 x138 x139 x140 x141 x142 x143 x147 x148 x149 x150 x151 x152 x153 x154 x155 x156 x157 x158 x159 x160 x161 x162 x163 x164 x165 x166 x167 x168 x169 x170 x171 x172 x173 x174 x175 x176 x177 x178 x179 x180 x181 x182 x183 x184 x185 x186 x187
set_option maxRecDepth 1000000 in
set_option maxHeartbeats 16000000 in
theorem mr_r41_wp {Q : Exit → Act → World → Prop} {w : World} {rl : List Rel} {d j b o E : Nat} {t2 : Nat} {T2 : Option Addr} {tu : List Int} {q k r : Nat} {wo : World} (hr : r < tu.length) (hl : tu.length ≤ 9223372036854775807) (hN : ∀ a', Frm 188 [(1, .pointer (some ⟨w.heap.size, 0, none⟩)), (2, .pointer (some ⟨w.heap.size + 1, 0, none⟩)), (77, .slice (some ⟨b, o, none⟩) rl.length d), (78, .int .i64 (rl.length : Nat)), (79, .int .i64 (j : Nat)), (6, .int .i64 (j : Nat)), (7, .pointer (some ⟨E, 0, none⟩)), (8, .int .i64 (k : Nat)), (10, .int .i64 (q : Nat)), (11, .slice T2 tu.length t2), (144, .slice T2 tu.length t2), (145, .int .i64 (tu.length : Nat)), (146, .int .i64 (r + 1 : Nat))] a' → Q .normal a' wo) : ∀ ac, Frm 188 [(1, .pointer (some ⟨w.heap.size, 0, none⟩)), (2, .pointer (some ⟨w.heap.size + 1, 0, none⟩)), (77, .slice (some ⟨b, o, none⟩) rl.length d), (78, .int .i64 (rl.length : Nat)), (79, .int .i64 (j : Nat)), (6, .int .i64 (j : Nat)), (7, .pointer (some ⟨E, 0, none⟩)), (8, .int .i64 (k : Nat)), (10, .int .i64 (q : Nat)), (11, .slice T2 tu.length t2), (144, .slice T2 tu.length t2), (145, .int .i64 (tu.length : Nat)), (146, .int .i64 (r : Nat))] ac → Code.wp Tryd.prog c_mr_r41 Q ac wo := by
  refine open_mr_r41 (P := fun a => Code.wp Tryd.prog c_mr_r41 Q a wo) ?_
  intro x0 x3 x4 x5 x9 x12 x13 x14 x15 x16 x17 x18 x19 x20 x21 x22 x23 x24 x25 x26 x27 x28 x29 x30 x31 x32 x33 x34 x35 x36 x37 x38 x39 x40 x41 x42 x43 x44 x45 x46 x47 x48 x49 x50 x51 x52 x53 x54 x55 x56 x57 x58 x59 x60 x61 x62 x63 x64 x65 x66 x67 x68 x69 x70 x71 x72 x73 x74 x75 x76 x80 x81 x82 x83 x84 x85 x86 x87 x88 x89 x90 x91 x92 x93 x94 x95 x96 x97 x98 x99 x100 x101 x102 x103 x104 x105 x106 x107 x108 x109 x110 x111 x112 x113 x114 x115 x116 x117 x118 x119 x120 x121 x122 x123 x124 x125 x126 x127 x128 x129 x130 x131 x132 x133 x134 x135 x136 x137 x138 x139 x140 x141 x142 x143 x147 x148 x149 x150 x151 x152 x153 x154 x155 x156 x157 x158 x159 x160 x161 x162 x163 x164 x165 x166 x167 x168 x169 x170 x171 x172 x173 x174 x175 x176 x177 x178 x179 x180 x181 x182 x183 x184 x185 x186 x187
  conv => arg 2; whnf
  have HN := Lib.hid hN
  clear hN
  have hw : ((r : Int) + 1) = ((r + 1 : Nat) : Int) := by omega
  have HW := Lib.hid hw
  clear hw
  go_wp2_with fail
  rw [HW.out]
  exact HN.out _ (id ⟨rfl, rfl, rfl, rfl, rfl, rfl, rfl, rfl, rfl, rfl, rfl, rfl, rfl, rfl, rfl, trivial⟩)
noncomputable def c_mr_row : Code := sub [1, 1, 1, 1, 0, 1, 0, 0, 1, 1, 0, 0, 1, 1, 1, 0, 1, 0, 0, 1, 0, 0, 1, 1, 0, 1, 0] (Tryd.f8.body.getD .skip)
set_option maxRecDepth 100000 in
theorem mr_row_wp {Q : Exit → Act → World → Prop} {w : World} {rl : List Rel} {d j b o E : Nat} {t2 : Nat} {T2 : Option Addr} {tu : List Int} {sz : Int} {cl : List Con} {A : Option Addr} {c : Nat} {q : Nat} {wo : World} {S : Nat → Prop} (hl : tu.length ≤ 9223372036854775807) (hp0 : wo.heap[w.heap.size]? = some (.cells #[.int .i64 sz, .slice A cl.length c, .slice (some ⟨b, o, none⟩) rl.length d] 25 (0, 0))) (hz : zRep.Sl wo S (.slice T2 tu.length t2) tu) (hS : ∀ b, S b → b < wo.heap.size)
    (hX : ∀ a', Frm 188 [(1, .pointer (some ⟨w.heap.size, 0, none⟩)), (2, .pointer (some ⟨w.heap.size + 1, 0, none⟩)), (77, .slice (some ⟨b, o, none⟩) rl.length d), (78, .int .i64 (rl.length : Nat)), (79, .int .i64 (j : Nat)), (6, .int .i64 (j : Nat)), (7, .pointer (some ⟨E, 0, none⟩)), (8, .int .i64 (if tu.any (badV sz) = true then 3 else 0 : Nat)), (10, .int .i64 (q : Nat)), (11, .slice T2 tu.length t2)] a' → Q (.exit 6) a' wo) : ∀ ac, Frm 188 [(1, .pointer (some ⟨w.heap.size, 0, none⟩)), (2, .pointer (some ⟨w.heap.size + 1, 0, none⟩)), (77, .slice (some ⟨b, o, none⟩) rl.length d), (78, .int .i64 (rl.length : Nat)), (79, .int .i64 (j : Nat)), (6, .int .i64 (j : Nat)), (7, .pointer (some ⟨E, 0, none⟩)), (8, .int .i64 0), (10, .int .i64 (q : Nat)), (11, .slice T2 tu.length t2), (144, .slice T2 tu.length t2), (145, .int .i64 (tu.length : Nat)), (146, .int .i64 0)] ac → Code.wp Tryd.prog c_mr_row Q ac wo := by
  intro a0 hf0
  conv => arg 2; whnf
  refine wp_loopR (fun g a' w' => ∃ r k : Nat, w' = wo ∧ r + g = tu.length ∧ k = (if (tu.take r).any (badV sz) = true then 3 else 0) ∧ Frm 188 [(1, .pointer (some ⟨w.heap.size, 0, none⟩)), (2, .pointer (some ⟨w.heap.size + 1, 0, none⟩)), (77, .slice (some ⟨b, o, none⟩) rl.length d), (78, .int .i64 (rl.length : Nat)), (79, .int .i64 (j : Nat)), (6, .int .i64 (j : Nat)), (7, .pointer (some ⟨E, 0, none⟩)), (8, .int .i64 (k : Nat)), (10, .int .i64 (q : Nat)), (11, .slice T2 tu.length t2), (144, .slice T2 tu.length t2), (145, .int .i64 (tu.length : Nat)), (146, .int .i64 (r : Nat))] a') tu.length ⟨0, 0, rfl, by omega, by simp, hf0⟩ ?_
  rintro g a1 w1 ⟨r, k, rfl, hg, hk, hfr⟩
  refine wp_seq ?_
  refine mr_r37_wp (fun a2 h2 => ?_) a1 hfr
  have h2d : Frm 188 [(1, .pointer (some ⟨w.heap.size, 0, none⟩)), (2, .pointer (some ⟨w.heap.size + 1, 0, none⟩)), (77, .slice (some ⟨b, o, none⟩) rl.length d), (78, .int .i64 (rl.length : Nat)), (79, .int .i64 (j : Nat)), (6, .int .i64 (j : Nat)), (7, .pointer (some ⟨E, 0, none⟩)), (8, .int .i64 (k : Nat)), (10, .int .i64 (q : Nat)), (11, .slice T2 tu.length t2), (144, .slice T2 tu.length t2), (145, .int .i64 (tu.length : Nat)), (146, .int .i64 (r : Nat))] a2 := have h := h2; ⟨h.1, h.2.1, h.2.2.1, h.2.2.2.1, h.2.2.2.2.1, h.2.2.2.2.2.1, h.2.2.2.2.2.2.1, h.2.2.2.2.2.2.2.1, h.2.2.2.2.2.2.2.2.1, h.2.2.2.2.2.2.2.2.2.1, h.2.2.2.2.2.2.2.2.2.2.1, h.2.2.2.2.2.2.2.2.2.2.2.1, h.2.2.2.2.2.2.2.2.2.2.2.2.1, h.2.2.2.2.2.2.2.2.2.2.2.2.2.1, h.2.2.2.2.2.2.2.2.2.2.2.2.2.2.1, trivial⟩
  refine wp_seq ?_
  by_cases hr : r < tu.length
  case neg =>
    refine wp_cond_false ((h2.eval (k := 147) (v := .bool (decide (r < tu.length))) (by simp)).trans (by rw [decide_eq_false hr])) ?_
    rw [List.take_of_length_le (by omega)] at hk
    have h := h2
    rw [hk] at h
    exact wp_exit (hX a2 ⟨h.1, h.2.1, h.2.2.1, h.2.2.2.1, h.2.2.2.2.1, h.2.2.2.2.2.1, h.2.2.2.2.2.2.1, h.2.2.2.2.2.2.2.1, h.2.2.2.2.2.2.2.2.1, h.2.2.2.2.2.2.2.2.2.1, h.2.2.2.2.2.2.2.2.2.2.1, h.2.2.2.2.2.2.2.2.2.2.2.1, trivial⟩)
  refine wp_cond_true ((h2.eval (k := 147) (v := .bool (decide (r < tu.length))) (by simp)).trans (by rw [decide_eq_true hr])) ?_
  refine wp_skip ?_
  refine wp_seq ?_
  refine wp_block ?_
  obtain ⟨b3, o3, hA3, hSb3, k0⟩ := int_at hz hr
  subst hA3
  refine wp_seq ?_
  refine mr_r38_wp hr (hS b3 hSb3) k0 (fun a3 h3 => ?_) a2 h2d
  refine wp_seq ?_
  refine mr_r39_wp (T2 := some ⟨b3, o3, none⟩) (sz := sz) (by assumption) (fun a4 h4 => ?_) a3 h3
  have h4d : Frm 188 [(1, .pointer (some ⟨w.heap.size, 0, none⟩)), (2, .pointer (some ⟨w.heap.size + 1, 0, none⟩)), (77, .slice (some ⟨b, o, none⟩) rl.length d), (78, .int .i64 (rl.length : Nat)), (79, .int .i64 (j : Nat)), (6, .int .i64 (j : Nat)), (7, .pointer (some ⟨E, 0, none⟩)), (8, .int .i64 (k : Nat)), (10, .int .i64 (q : Nat)), (11, .slice (some ⟨b3, o3, none⟩) tu.length t2), (144, .slice (some ⟨b3, o3, none⟩) tu.length t2), (145, .int .i64 (tu.length : Nat)), (146, .int .i64 (r : Nat))] a4 := have h := h4; ⟨h.1, h.2.1, h.2.2.1, h.2.2.2.1, h.2.2.2.2.1, h.2.2.2.2.2.1, h.2.2.2.2.2.2.1, h.2.2.2.2.2.2.2.1, h.2.2.2.2.2.2.2.2.1, h.2.2.2.2.2.2.2.2.2.1, h.2.2.2.2.2.2.2.2.2.2.1, h.2.2.2.2.2.2.2.2.2.2.2.1, h.2.2.2.2.2.2.2.2.2.2.2.2.1, h.2.2.2.2.2.2.2.2.2.2.2.2.2.1, h.2.2.2.2.2.2.2.2.2.2.2.2.2.2.1, trivial⟩
  have htk : (tu.take (r + 1)).any (badV sz) = ((tu.take r).any (badV sz) || badV sz tu[r]) := by
    rw [List.take_succ_eq_append_getElem hr, List.any_append]; simp
  have hnext : ∀ (k2 : Nat) a5, k2 = (if (tu.take (r + 1)).any (badV sz) = true then 3 else 0) → Frm 188 [(1, .pointer (some ⟨w.heap.size, 0, none⟩)), (2, .pointer (some ⟨w.heap.size + 1, 0, none⟩)), (77, .slice (some ⟨b, o, none⟩) rl.length d), (78, .int .i64 (rl.length : Nat)), (79, .int .i64 (j : Nat)), (6, .int .i64 (j : Nat)), (7, .pointer (some ⟨E, 0, none⟩)), (8, .int .i64 (k2 : Nat)), (10, .int .i64 (q : Nat)), (11, .slice (some ⟨b3, o3, none⟩) tu.length t2), (144, .slice (some ⟨b3, o3, none⟩) tu.length t2), (145, .int .i64 (tu.length : Nat)), (146, .int .i64 (r : Nat))] a5 → Code.wp Tryd.prog c_mr_r41 (Exit.then (fun a' w' => ∃ m, m < g ∧ (fun g a' w' => ∃ r k : Nat, w' = w1 ∧ r + g = tu.length ∧ k = (if (tu.take r).any (badV sz) = true then 3 else 0) ∧ Frm 188 [(1, .pointer (some ⟨w.heap.size, 0, none⟩)), (2, .pointer (some ⟨w.heap.size + 1, 0, none⟩)), (77, .slice (some ⟨b, o, none⟩) rl.length d), (78, .int .i64 (rl.length : Nat)), (79, .int .i64 (j : Nat)), (6, .int .i64 (j : Nat)), (7, .pointer (some ⟨E, 0, none⟩)), (8, .int .i64 (k : Nat)), (10, .int .i64 (q : Nat)), (11, .slice (some ⟨b3, o3, none⟩) tu.length t2), (144, .slice (some ⟨b3, o3, none⟩) tu.length t2), (145, .int .i64 (tu.length : Nat)), (146, .int .i64 (r : Nat))] a') m a' w') Q) a5 w1 := by
    intro k2 a5 hk2 h5
    refine mr_r41_wp hr hl (fun a6 h6 => ?_) a5 h5
    exact ⟨g - 1, by omega, r + 1, k2, rfl, by omega, hk2, h6⟩
  cases hbv : badV sz tu[r] with
  | true =>
    refine wp_cond_true ((h4.eval (k := 157) (v := .bool (badV sz tu[r])) (by simp)).trans (by rw [hbv])) ?_
    refine mr_r40_wp (fun a5 h5 => ?_) a4 h4d
    exact hnext 3 a5 (by rw [htk, hbv, Bool.or_true, if_pos rfl]) h5
  | false =>
    refine wp_cond_false ((h4.eval (k := 157) (v := .bool (badV sz tu[r])) (by simp)).trans (by rw [hbv])) ?_
    refine wp_skip ?_
    exact hnext k a4 (by rw [htk, hbv, Bool.or_false]; exact hk) h4d

end Go.Proofs.YtnoceodmnjhljabDoor
