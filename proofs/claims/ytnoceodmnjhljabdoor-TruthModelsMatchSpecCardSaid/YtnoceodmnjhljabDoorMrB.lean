/-
  ModelFault by parts: a relation ahead of its rows.
-/
import Derived.Test.YtnoceodmnjhljabDoorCmp
import Derived.Test.YtnoceodmnjhljabDoorName
import Derived.Test.YtnoceodmnjhljabDoorTree
import Derived.Test.YtnoceodmnjhljabDoorMdAt
import Derived.Test.YtnoceodmnjhljabDoorMrA
import Derived.Deep.DeepCutAuto
import Derived.BigQuiet
namespace Go.Proofs.YtnoceodmnjhljabDoor
open Go Go.RowKit
set_option linter.unusedSimpArgs false
set_option linter.unusedVariables false

open Classical in
/-- The code for a relation ahead of its rows. -/
noncomputable def headCode (sz : Int) (pv : Option Rel) (x : Rel) : Nat :=
  if okName x.nm = false then 10 else if x.ar < 0 ∨ 3 < x.ar then 3 else if (pv.any fun p => decide (0 ≤ cmpR p x)) = true then 13 else 0
theorem rel_head (sz : Int) (pv : Option Rel) (x : Rel) : relCode sz pv x = if headCode sz pv x = 0 then tupsF sz x.ar none x.tp else headCode sz pv x := by
  unfold relCode headCode
  split
  · rfl
  · split
    · rfl
    · split <;> rfl
/-- The order of relations, as the reference asks. -/
theorem cmpR_ref (p x : Rel) : (0 ≤ cmpR p x) ↔ (Op.bytesLess x.nm.toList p.nm.toList = true ∨ (p.nm.toList = x.nm.toList ∧ x.ar ≤ p.ar)) := by
  unfold cmpR
  cases h1 : Op.bytesLess p.nm.toList x.nm.toList with
  | true =>
    have e : cmpS p.nm x.nm = -1 := by unfold cmpS; rw [if_pos h1]
    have h2 := less_asym _ _ h1
    simp only [e, h2]
    constructor
    · intro h; simp at h
    · rintro (h | ⟨h, _⟩)
      · cases h
      · rw [h, less_irr] at h1; cases h1
  | false =>
    cases h2 : Op.bytesLess x.nm.toList p.nm.toList with
    | true =>
      have e : cmpS p.nm x.nm = 1 := by unfold cmpS; rw [if_neg (by rw [h1]; decide), if_pos h2]
      simp [e]
    | false =>
      have e : cmpS p.nm x.nm = 0 := by unfold cmpS; rw [if_neg (by rw [h1]; decide), if_neg (by rw [h2]; decide)]
      have e2 := less_tri _ _ h1 h2
      simp only [e, ne_eq, not_true_eq_false, if_false, cmpI_ge, e2, true_and, Bool.false_eq_true, false_or]

noncomputable def c_mr_rhead : Code := sub [1, 1, 1, 1, 0, 1, 0, 0, 0] (Tryd.f8.body.getD .skip)
set_option maxRecDepth 1000000 in
theorem open_mr_rhead {P : Act → Prop} {v0 v1 v2 v3 v4 : Value} (h : ∀ x0 x3 x4 x5 x6 x7 x8 x9 x10 x11 x12 x13 x14 x15 x16 x17 x18 x19 x20 x21 x22 x23 x24 x25 x26 x27 x28 x29 x30 x31 x32 x33 x34 x35 x36 x37 x38 x39 x40 x41 x42 x43 x44 x45 x46 x47 x48 x49 x50 x51 x52 x53 x54 x55 x56 x57 x58 x59 x60 x61 x62 x63 x64 x65 x66 x67 x68 x69 x70 x71 x72 x73 x74 x75 x76 x80 x81 x82 x83 x84 x85 x86 x87 x88 x89 x90 x91 x92 x93 x94 x95 x96 x97 x98 x99 x100 x101 x102 x103 x104 x105 x106 x107 x108 x109 x110 x111 x112 x113 x114 x115 x116 x117 x118 x119 x120 x121 x122 x123 x124 x125 x126 x127 x128 x129 x130 x131 x132 x133 x134 x135 x136 x137 x138 x139 x140 x141 x142 x143 x144 x145 x146 x147 x148 x149 x150 x151 x152 x153 x154 x155 x156 x157 x158 x159 x160 x161 x162 x163 x164 x165 x166 x167 x168 x169 x170 x171 x172 x173 x174 x175 x176 x177 x178 x179 x180 x181 x182 x183 x184 x185 x186 x187 : Value, P ⟨(x0 :: v0 :: v1 :: x3 :: x4 :: x5 :: x6 :: x7 :: x8 :: x9 :: x10 :: x11 :: x12 :: x13 :: x14 :: x15 :: x16 :: x17 :: x18 :: x19 :: x20 :: x21 :: x22 :: x23 :: x24 :: x25 :: x26 :: x27 :: x28 :: x29 :: x30 :: x31 :: x32 :: x33 :: x34 :: x35 :: x36 :: x37 :: x38 :: x39 :: x40 :: x41 :: x42 :: x43 :: x44 :: x45 :: x46 :: x47 :: x48 :: x49 :: x50 :: x51 :: x52 :: x53 :: x54 :: x55 :: x56 :: x57 :: x58 :: x59 :: x60 :: x61 :: x62 :: x63 :: x64 :: x65 :: x66 :: x67 :: x68 :: x69 :: x70 :: x71 :: x72 :: x73 :: x74 :: x75 :: x76 :: v2 :: v3 :: v4 :: x80 :: x81 :: x82 :: x83 :: x84 :: x85 :: x86 :: x87 :: x88 :: x89 :: x90 :: x91 :: x92 :: x93 :: x94 :: x95 :: x96 :: x97 :: x98 :: x99 :: x100 :: x101 :: x102 :: x103 :: x104 :: x105 :: x106 :: x107 :: x108 :: x109 :: x110 :: x111 :: x112 :: x113 :: x114 :: x115 :: x116 :: x117 :: x118 :: x119 :: x120 :: x121 :: x122 :: x123 :: x124 :: x125 :: x126 :: x127 :: x128 :: x129 :: x130 :: x131 :: x132 :: x133 :: x134 :: x135 :: x136 :: x137 :: x138 :: x139 :: x140 :: x141 :: x142 :: x143 :: x144 :: x145 :: x146 :: x147 :: x148 :: x149 :: x150 :: x151 :: x152 :: x153 :: x154 :: x155 :: x156 :: x157 :: x158 :: x159 :: x160 :: x161 :: x162 :: x163 :: x164 :: x165 :: x166 :: x167 :: x168 :: x169 :: x170 :: x171 :: x172 :: x173 :: x174 :: x175 :: x176 :: x177 :: x178 :: x179 :: x180 :: x181 :: x182 :: x183 :: x184 :: x185 :: x186 :: x187 :: []).toArray, []⟩) : ∀ a, Frm 188 [(1, v0), (2, v1), (77, v2), (78, v3), (79, v4)] a → P a := by
  rintro a ⟨h1, h2, e0, e1, e2, e3, e4, _⟩
  revert e0 e1 e2 e3 e4
  refine frame_mr (P := fun a => a.tmps.toList[1]? = some v0 → a.tmps.toList[2]? = some v1 → a.tmps.toList[77]? = some v2 → a.tmps.toList[78]? = some v3 → a.tmps.toList[79]? = some v4 → P a) ?_ a h1 h2
  intro x0 x1 x2 x3 x4 x5 x6 x7 x8 x9 x10 x11 x12 x13 x14 x15 x16 x17 x18 x19 x20 x21 x22 x23 x24 x25 x26 x27 x28 x29 x30 x31 x32 x33 x34 x35 x36 x37 x38 x39 x40 x41 x42 x43 x44 x45 x46 x47 x48 x49 x50 x51 x52 x53 x54 x55 x56 x57 x58 x59 x60 x61 x62 x63 x64 x65 x66 x67 x68 x69 x70 x71 x72 x73 x74 x75 x76 x77 x78 x79 x80 x81 x82 x83 x84 x85 x86 x87 x88 x89 x90 x91 x92 x93 x94 x95 x96 x97 x98 x99 x100 x101 x102 x103 x104 x105 x106 x107 x108 x109 x110 x111 x112 x113 x114 x115 x116 x117 x118 x119 x120 x121 x122 x123 x124 x125 x126 x127 x128 x129 x130 x131 x132 x133 x134 x135 x136 x137 x138 x139 x140 x141 x142 x143 x144 x145 x146 x147 x148 x149 x150 x151 x152 x153 x154 x155 x156 x157 x158 x159 x160 x161 x162 x163 x164 x165 x166 x167 x168 x169 x170 x171 x172 x173 x174 x175 x176 x177 x178 x179 x180 x181 x182 x183 x184 x185 x186 x187 e0 e1 e2 e3 e4
  obtain rfl : x1 = v0 := Option.some.inj e0
  obtain rfl : x2 = v1 := Option.some.inj e1
  obtain rfl : x77 = v2 := Option.some.inj e2
  obtain rfl : x78 = v3 := Option.some.inj e3
  obtain rfl : x79 = v4 := Option.some.inj e4
  exact h x0 x3 x4 x5 x6 x7 x8 x9 x10 x11 x12 x13 x14 x15 x16 x17 x18 x19 x20 x21 x22 x23 x24 x25 x26 x27 x28 x29 x30 x31 x32 x33 x34 x35 x36 x37 x38 x39 x40 x41 x42 x43 x44 x45 x46 x47 x48 x49 x50 x51 x52 x53 x54 x55 x56 x57 x58 x59 x60 x61 x62 x63 x64 x65 x66 x67 x68 x69 x70 x71 x72 x73 x74 x75 x76 x80 x81 x82 x83 x84 x85 x86 x87 x88 x89 x90 x91 x92 x93 x94 x95 x96 x97 x98 x99 x100 x101 x102 x103 x104 x105 x106 x107 x108 x109 x110 x111 x112 x113 x114 x115 x116 x117 x118 x119 x120 x121 x122 x123 x124 x125 x126 x127 x128 x129 x130 x131 x132 x133 x134 x135 x136 x137 x138 x139 x140 x141 x142 x143 x144 x145 x146 x147 x148 x149 x150 x151 x152 x153 x154 x155 x156 x157 x158 x159 x160 x161 x162 x163 x164 x165 x166 x167 x168 x169 x170 x171 x172 x173 x174 x175 x176 x177 x178 x179 x180 x181 x182 x183 x184 x185 x186 x187
set_option maxRecDepth 1000000 in
set_option maxHeartbeats 16000000 in
theorem mr_rhead_wp {Q : Exit → Act → World → Prop} {w wr : World} {rl : List Rel} {B : Option Addr} {d j : Nat} (hN : ∀ a', Frm 188 [(1, .pointer (some ⟨w.heap.size, 0, none⟩)), (2, .pointer (some ⟨w.heap.size + 1, 0, none⟩)), (77, .slice B rl.length d), (78, .int .i64 (rl.length : Nat)), (79, .int .i64 (j : Nat)), (80, .bool (decide (j < rl.length)))] a' → Q .normal a' wr) : ∀ ac, Frm 188 [(1, .pointer (some ⟨w.heap.size, 0, none⟩)), (2, .pointer (some ⟨w.heap.size + 1, 0, none⟩)), (77, .slice B rl.length d), (78, .int .i64 (rl.length : Nat)), (79, .int .i64 (j : Nat))] ac → Code.wp Tryd.prog c_mr_rhead Q ac wr := by
  refine open_mr_rhead (P := fun a => Code.wp Tryd.prog c_mr_rhead Q a wr) ?_
  intro x0 x3 x4 x5 x6 x7 x8 x9 x10 x11 x12 x13 x14 x15 x16 x17 x18 x19 x20 x21 x22 x23 x24 x25 x26 x27 x28 x29 x30 x31 x32 x33 x34 x35 x36 x37 x38 x39 x40 x41 x42 x43 x44 x45 x46 x47 x48 x49 x50 x51 x52 x53 x54 x55 x56 x57 x58 x59 x60 x61 x62 x63 x64 x65 x66 x67 x68 x69 x70 x71 x72 x73 x74 x75 x76 x80 x81 x82 x83 x84 x85 x86 x87 x88 x89 x90 x91 x92 x93 x94 x95 x96 x97 x98 x99 x100 x101 x102 x103 x104 x105 x106 x107 x108 x109 x110 x111 x112 x113 x114 x115 x116 x117 x118 x119 x120 x121 x122 x123 x124 x125 x126 x127 x128 x129 x130 x131 x132 x133 x134 x135 x136 x137 x138 x139 x140 x141 x142 x143 x144 x145 x146 x147 x148 x149 x150 x151 x152 x153 x154 x155 x156 x157 x158 x159 x160 x161 x162 x163 x164 x165 x166 x167 x168 x169 x170 x171 x172 x173 x174 x175 x176 x177 x178 x179 x180 x181 x182 x183 x184 x185 x186 x187
  conv => arg 2; whnf
  have HN := Lib.hid hN
  clear hN
  by_cases hjl : j < rl.length
  · have q1 : (j : Int) < (rl.length : Int) := by omega
    rw [show decide (j < rl.length) = true from decide_eq_true hjl] at HN
    clear hjl
    go_wp2_with fail
    exact HN.out _ (id ⟨rfl, rfl, rfl, rfl, rfl, rfl, rfl, rfl, trivial⟩)
  · have q1 : ¬ (j : Int) < (rl.length : Int) := by omega
    rw [show decide (j < rl.length) = false from decide_eq_false hjl] at HN
    clear hjl
    go_wp2_with fail
    exact HN.out _ (id ⟨rfl, rfl, rfl, rfl, rfl, rfl, rfl, rfl, trivial⟩)
noncomputable def c_mr_rbox : Code := sub [1, 1, 1, 1, 0, 1, 0, 0, 1, 1, 0, 0, 0] (Tryd.f8.body.getD .skip)
set_option maxRecDepth 1000000 in
theorem open_mr_rbox {P : Act → Prop} {v0 v1 v2 v3 v4 : Value} (h : ∀ x0 x3 x4 x5 x6 x7 x8 x9 x10 x11 x12 x13 x14 x15 x16 x17 x18 x19 x20 x21 x22 x23 x24 x25 x26 x27 x28 x29 x30 x31 x32 x33 x34 x35 x36 x37 x38 x39 x40 x41 x42 x43 x44 x45 x46 x47 x48 x49 x50 x51 x52 x53 x54 x55 x56 x57 x58 x59 x60 x61 x62 x63 x64 x65 x66 x67 x68 x69 x70 x71 x72 x73 x74 x75 x76 x80 x81 x82 x83 x84 x85 x86 x87 x88 x89 x90 x91 x92 x93 x94 x95 x96 x97 x98 x99 x100 x101 x102 x103 x104 x105 x106 x107 x108 x109 x110 x111 x112 x113 x114 x115 x116 x117 x118 x119 x120 x121 x122 x123 x124 x125 x126 x127 x128 x129 x130 x131 x132 x133 x134 x135 x136 x137 x138 x139 x140 x141 x142 x143 x144 x145 x146 x147 x148 x149 x150 x151 x152 x153 x154 x155 x156 x157 x158 x159 x160 x161 x162 x163 x164 x165 x166 x167 x168 x169 x170 x171 x172 x173 x174 x175 x176 x177 x178 x179 x180 x181 x182 x183 x184 x185 x186 x187 : Value, P ⟨(x0 :: v0 :: v1 :: x3 :: x4 :: x5 :: x6 :: x7 :: x8 :: x9 :: x10 :: x11 :: x12 :: x13 :: x14 :: x15 :: x16 :: x17 :: x18 :: x19 :: x20 :: x21 :: x22 :: x23 :: x24 :: x25 :: x26 :: x27 :: x28 :: x29 :: x30 :: x31 :: x32 :: x33 :: x34 :: x35 :: x36 :: x37 :: x38 :: x39 :: x40 :: x41 :: x42 :: x43 :: x44 :: x45 :: x46 :: x47 :: x48 :: x49 :: x50 :: x51 :: x52 :: x53 :: x54 :: x55 :: x56 :: x57 :: x58 :: x59 :: x60 :: x61 :: x62 :: x63 :: x64 :: x65 :: x66 :: x67 :: x68 :: x69 :: x70 :: x71 :: x72 :: x73 :: x74 :: x75 :: x76 :: v2 :: v3 :: v4 :: x80 :: x81 :: x82 :: x83 :: x84 :: x85 :: x86 :: x87 :: x88 :: x89 :: x90 :: x91 :: x92 :: x93 :: x94 :: x95 :: x96 :: x97 :: x98 :: x99 :: x100 :: x101 :: x102 :: x103 :: x104 :: x105 :: x106 :: x107 :: x108 :: x109 :: x110 :: x111 :: x112 :: x113 :: x114 :: x115 :: x116 :: x117 :: x118 :: x119 :: x120 :: x121 :: x122 :: x123 :: x124 :: x125 :: x126 :: x127 :: x128 :: x129 :: x130 :: x131 :: x132 :: x133 :: x134 :: x135 :: x136 :: x137 :: x138 :: x139 :: x140 :: x141 :: x142 :: x143 :: x144 :: x145 :: x146 :: x147 :: x148 :: x149 :: x150 :: x151 :: x152 :: x153 :: x154 :: x155 :: x156 :: x157 :: x158 :: x159 :: x160 :: x161 :: x162 :: x163 :: x164 :: x165 :: x166 :: x167 :: x168 :: x169 :: x170 :: x171 :: x172 :: x173 :: x174 :: x175 :: x176 :: x177 :: x178 :: x179 :: x180 :: x181 :: x182 :: x183 :: x184 :: x185 :: x186 :: x187 :: []).toArray, []⟩) : ∀ a, Frm 188 [(1, v0), (2, v1), (77, v2), (78, v3), (79, v4)] a → P a := by
  rintro a ⟨h1, h2, e0, e1, e2, e3, e4, _⟩
  revert e0 e1 e2 e3 e4
  refine frame_mr (P := fun a => a.tmps.toList[1]? = some v0 → a.tmps.toList[2]? = some v1 → a.tmps.toList[77]? = some v2 → a.tmps.toList[78]? = some v3 → a.tmps.toList[79]? = some v4 → P a) ?_ a h1 h2
  intro x0 x1 x2 x3 x4 x5 x6 x7 x8 x9 x10 x11 x12 x13 x14 x15 x16 x17 x18 x19 x20 x21 x22 x23 x24 x25 x26 x27 x28 x29 x30 x31 x32 x33 x34 x35 x36 x37 x38 x39 x40 x41 x42 x43 x44 x45 x46 x47 x48 x49 x50 x51 x52 x53 x54 x55 x56 x57 x58 x59 x60 x61 x62 x63 x64 x65 x66 x67 x68 x69 x70 x71 x72 x73 x74 x75 x76 x77 x78 x79 x80 x81 x82 x83 x84 x85 x86 x87 x88 x89 x90 x91 x92 x93 x94 x95 x96 x97 x98 x99 x100 x101 x102 x103 x104 x105 x106 x107 x108 x109 x110 x111 x112 x113 x114 x115 x116 x117 x118 x119 x120 x121 x122 x123 x124 x125 x126 x127 x128 x129 x130 x131 x132 x133 x134 x135 x136 x137 x138 x139 x140 x141 x142 x143 x144 x145 x146 x147 x148 x149 x150 x151 x152 x153 x154 x155 x156 x157 x158 x159 x160 x161 x162 x163 x164 x165 x166 x167 x168 x169 x170 x171 x172 x173 x174 x175 x176 x177 x178 x179 x180 x181 x182 x183 x184 x185 x186 x187 e0 e1 e2 e3 e4
  obtain rfl : x1 = v0 := Option.some.inj e0
  obtain rfl : x2 = v1 := Option.some.inj e1
  obtain rfl : x77 = v2 := Option.some.inj e2
  obtain rfl : x78 = v3 := Option.some.inj e3
  obtain rfl : x79 = v4 := Option.some.inj e4
  exact h x0 x3 x4 x5 x6 x7 x8 x9 x10 x11 x12 x13 x14 x15 x16 x17 x18 x19 x20 x21 x22 x23 x24 x25 x26 x27 x28 x29 x30 x31 x32 x33 x34 x35 x36 x37 x38 x39 x40 x41 x42 x43 x44 x45 x46 x47 x48 x49 x50 x51 x52 x53 x54 x55 x56 x57 x58 x59 x60 x61 x62 x63 x64 x65 x66 x67 x68 x69 x70 x71 x72 x73 x74 x75 x76 x80 x81 x82 x83 x84 x85 x86 x87 x88 x89 x90 x91 x92 x93 x94 x95 x96 x97 x98 x99 x100 x101 x102 x103 x104 x105 x106 x107 x108 x109 x110 x111 x112 x113 x114 x115 x116 x117 x118 x119 x120 x121 x122 x123 x124 x125 x126 x127 x128 x129 x130 x131 x132 x133 x134 x135 x136 x137 x138 x139 x140 x141 x142 x143 x144 x145 x146 x147 x148 x149 x150 x151 x152 x153 x154 x155 x156 x157 x158 x159 x160 x161 x162 x163 x164 x165 x166 x167 x168 x169 x170 x171 x172 x173 x174 x175 x176 x177 x178 x179 x180 x181 x182 x183 x184 x185 x186 x187
set_option maxRecDepth 1000000 in
set_option maxHeartbeats 16000000 in
theorem mr_rbox_wp {Q : Exit → Act → World → Prop} {w wr : World} {rl : List Rel} {d j b o t : Nat} {nm : ByteArray} {ar : Int} {T : Option Addr} {tp : List (List Int)} (hj : j < rl.length) (hb : b < wr.heap.size) (e0 : wr.cell? ⟨b, o + j * 3, none⟩ = some (.string nm)) (e1 : wr.cell? ⟨b, o + j * 3 + 1, none⟩ = some (.int .i64 ar)) (e2 : wr.cell? ⟨b, o + j * 3 + 2, none⟩ = some (.slice T tp.length t)) (hN : ∀ a', Frm 188 [(1, .pointer (some ⟨w.heap.size, 0, none⟩)), (2, .pointer (some ⟨w.heap.size + 1, 0, none⟩)), (77, .slice (some ⟨b, o, none⟩) rl.length d), (78, .int .i64 (rl.length : Nat)), (79, .int .i64 (j : Nat)), (6, .int .i64 (j : Nat)), (7, .pointer (some ⟨wr.heap.size, 0, none⟩))] a' → Q .normal a' (wr.alloc (.cells #[.string nm, .int .i64 ar, .slice T tp.length t] 48 (0, 0)))) : ∀ ac, Frm 188 [(1, .pointer (some ⟨w.heap.size, 0, none⟩)), (2, .pointer (some ⟨w.heap.size + 1, 0, none⟩)), (77, .slice (some ⟨b, o, none⟩) rl.length d), (78, .int .i64 (rl.length : Nat)), (79, .int .i64 (j : Nat))] ac → Code.wp Tryd.prog c_mr_rbox Q ac wr := by
  refine open_mr_rbox (P := fun a => Code.wp Tryd.prog c_mr_rbox Q a wr) ?_
  intro x0 x3 x4 x5 x6 x7 x8 x9 x10 x11 x12 x13 x14 x15 x16 x17 x18 x19 x20 x21 x22 x23 x24 x25 x26 x27 x28 x29 x30 x31 x32 x33 x34 x35 x36 x37 x38 x39 x40 x41 x42 x43 x44 x45 x46 x47 x48 x49 x50 x51 x52 x53 x54 x55 x56 x57 x58 x59 x60 x61 x62 x63 x64 x65 x66 x67 x68 x69 x70 x71 x72 x73 x74 x75 x76 x80 x81 x82 x83 x84 x85 x86 x87 x88 x89 x90 x91 x92 x93 x94 x95 x96 x97 x98 x99 x100 x101 x102 x103 x104 x105 x106 x107 x108 x109 x110 x111 x112 x113 x114 x115 x116 x117 x118 x119 x120 x121 x122 x123 x124 x125 x126 x127 x128 x129 x130 x131 x132 x133 x134 x135 x136 x137 x138 x139 x140 x141 x142 x143 x144 x145 x146 x147 x148 x149 x150 x151 x152 x153 x154 x155 x156 x157 x158 x159 x160 x161 x162 x163 x164 x165 x166 x167 x168 x169 x170 x171 x172 x173 x174 x175 x176 x177 x178 x179 x180 x181 x182 x183 x184 x185 x186 x187
  conv => arg 2; whnf
  have HN := Lib.hid hN
  clear hN
  have q0 : (0 : Int) ≤ (j : Int) := by omega
  have q1 : (j : Int) < (rl.length : Int) := by omega
  have hbl2 : b < wr.heap.size + 1 := by omega
  go_wp2_with fail
  exact HN.out _ (id ⟨rfl, rfl, rfl, rfl, rfl, rfl, rfl, rfl, rfl, trivial⟩)
noncomputable def c_mr_r21 : Code := sub [1, 1, 1, 1, 0, 1, 0, 0, 1, 1, 0, 0, 1, 0] (Tryd.f8.body.getD .skip)
set_option maxRecDepth 1000000 in
theorem open_mr_r21 {P : Act → Prop} {v0 v1 v2 v3 v4 v5 v6 : Value} (h : ∀ x0 x3 x4 x5 x8 x9 x10 x11 x12 x13 x14 x15 x16 x17 x18 x19 x20 x21 x22 x23 x24 x25 x26 x27 x28 x29 x30 x31 x32 x33 x34 x35 x36 x37 x38 x39 x40 x41 x42 x43 x44 x45 x46 x47 x48 x49 x50 x51 x52 x53 x54 x55 x56 x57 x58 x59 x60 x61 x62 x63 x64 x65 x66 x67 x68 x69 x70 x71 x72 x73 x74 x75 x76 x80 x81 x82 x83 x84 x85 x86 x87 x88 x89 x90 x91 x92 x93 x94 x95 x96 x97 x98 x99 x100 x101 x102 x103 x104 x105 x106 x107 x108 x109 x110 x111 x112 x113 x114 x115 x116 x117 x118 x119 x120 x121 x122 x123 x124 x125 x126 x127 x128 x129 x130 x131 x132 x133 x134 x135 x136 x137 x138 x139 x140 x141 x142 x143 x144 x145 x146 x147 x148 x149 x150 x151 x152 x153 x154 x155 x156 x157 x158 x159 x160 x161 x162 x163 x164 x165 x166 x167 x168 x169 x170 x171 x172 x173 x174 x175 x176 x177 x178 x179 x180 x181 x182 x183 x184 x185 x186 x187 : Value, P ⟨(x0 :: v0 :: v1 :: x3 :: x4 :: x5 :: v5 :: v6 :: x8 :: x9 :: x10 :: x11 :: x12 :: x13 :: x14 :: x15 :: x16 :: x17 :: x18 :: x19 :: x20 :: x21 :: x22 :: x23 :: x24 :: x25 :: x26 :: x27 :: x28 :: x29 :: x30 :: x31 :: x32 :: x33 :: x34 :: x35 :: x36 :: x37 :: x38 :: x39 :: x40 :: x41 :: x42 :: x43 :: x44 :: x45 :: x46 :: x47 :: x48 :: x49 :: x50 :: x51 :: x52 :: x53 :: x54 :: x55 :: x56 :: x57 :: x58 :: x59 :: x60 :: x61 :: x62 :: x63 :: x64 :: x65 :: x66 :: x67 :: x68 :: x69 :: x70 :: x71 :: x72 :: x73 :: x74 :: x75 :: x76 :: v2 :: v3 :: v4 :: x80 :: x81 :: x82 :: x83 :: x84 :: x85 :: x86 :: x87 :: x88 :: x89 :: x90 :: x91 :: x92 :: x93 :: x94 :: x95 :: x96 :: x97 :: x98 :: x99 :: x100 :: x101 :: x102 :: x103 :: x104 :: x105 :: x106 :: x107 :: x108 :: x109 :: x110 :: x111 :: x112 :: x113 :: x114 :: x115 :: x116 :: x117 :: x118 :: x119 :: x120 :: x121 :: x122 :: x123 :: x124 :: x125 :: x126 :: x127 :: x128 :: x129 :: x130 :: x131 :: x132 :: x133 :: x134 :: x135 :: x136 :: x137 :: x138 :: x139 :: x140 :: x141 :: x142 :: x143 :: x144 :: x145 :: x146 :: x147 :: x148 :: x149 :: x150 :: x151 :: x152 :: x153 :: x154 :: x155 :: x156 :: x157 :: x158 :: x159 :: x160 :: x161 :: x162 :: x163 :: x164 :: x165 :: x166 :: x167 :: x168 :: x169 :: x170 :: x171 :: x172 :: x173 :: x174 :: x175 :: x176 :: x177 :: x178 :: x179 :: x180 :: x181 :: x182 :: x183 :: x184 :: x185 :: x186 :: x187 :: []).toArray, []⟩) : ∀ a, Frm 188 [(1, v0), (2, v1), (77, v2), (78, v3), (79, v4), (6, v5), (7, v6)] a → P a := by
  rintro a ⟨h1, h2, e0, e1, e2, e3, e4, e5, e6, _⟩
  revert e0 e1 e2 e3 e4 e5 e6
  refine frame_mr (P := fun a => a.tmps.toList[1]? = some v0 → a.tmps.toList[2]? = some v1 → a.tmps.toList[77]? = some v2 → a.tmps.toList[78]? = some v3 → a.tmps.toList[79]? = some v4 → a.tmps.toList[6]? = some v5 → a.tmps.toList[7]? = some v6 → P a) ?_ a h1 h2
  intro x0 x1 x2 x3 x4 x5 x6 x7 x8 x9 x10 x11 x12 x13 x14 x15 x16 x17 x18 x19 x20 x21 x22 x23 x24 x25 x26 x27 x28 x29 x30 x31 x32 x33 x34 x35 x36 x37 x38 x39 x40 x41 x42 x43 x44 x45 x46 x47 x48 x49 x50 x51 x52 x53 x54 x55 x56 x57 x58 x59 x60 x61 x62 x63 x64 x65 x66 x67 x68 x69 x70 x71 x72 x73 x74 x75 x76 x77 x78 x79 x80 x81 x82 x83 x84 x85 x86 x87 x88 x89 x90 x91 x92 x93 x94 x95 x96 x97 x98 x99 x100 x101 x102 x103 x104 x105 x106 x107 x108 x109 x110 x111 x112 x113 x114 x115 x116 x117 x118 x119 x120 x121 x122 x123 x124 x125 x126 x127 x128 x129 x130 x131 x132 x133 x134 x135 x136 x137 x138 x139 x140 x141 x142 x143 x144 x145 x146 x147 x148 x149 x150 x151 x152 x153 x154 x155 x156 x157 x158 x159 x160 x161 x162 x163 x164 x165 x166 x167 x168 x169 x170 x171 x172 x173 x174 x175 x176 x177 x178 x179 x180 x181 x182 x183 x184 x185 x186 x187 e0 e1 e2 e3 e4 e5 e6
  obtain rfl : x1 = v0 := Option.some.inj e0
  obtain rfl : x2 = v1 := Option.some.inj e1
  obtain rfl : x77 = v2 := Option.some.inj e2
  obtain rfl : x78 = v3 := Option.some.inj e3
  obtain rfl : x79 = v4 := Option.some.inj e4
  obtain rfl : x6 = v5 := Option.some.inj e5
  obtain rfl : x7 = v6 := Option.some.inj e6
  exact h x0 x3 x4 x5 x8 x9 x10 x11 x12 x13 x14 x15 x16 x17 x18 x19 x20 x21 x22 x23 x24 x25 x26 x27 x28 x29 x30 x31 x32 x33 x34 x35 x36 x37 x38 x39 x40 x41 x42 x43 x44 x45 x46 x47 x48 x49 x50 x51 x52 x53 x54 x55 x56 x57 x58 x59 x60 x61 x62 x63 x64 x65 x66 x67 x68 x69 x70 x71 x72 x73 x74 x75 x76 x80 x81 x82 x83 x84 x85 x86 x87 x88 x89 x90 x91 x92 x93 x94 x95 x96 x97 x98 x99 x100 x101 x102 x103 x104 x105 x106 x107 x108 x109 x110 x111 x112 x113 x114 x115 x116 x117 x118 x119 x120 x121 x122 x123 x124 x125 x126 x127 x128 x129 x130 x131 x132 x133 x134 x135 x136 x137 x138 x139 x140 x141 x142 x143 x144 x145 x146 x147 x148 x149 x150 x151 x152 x153 x154 x155 x156 x157 x158 x159 x160 x161 x162 x163 x164 x165 x166 x167 x168 x169 x170 x171 x172 x173 x174 x175 x176 x177 x178 x179 x180 x181 x182 x183 x184 x185 x186 x187
set_option maxRecDepth 1000000 in
set_option maxHeartbeats 16000000 in
theorem mr_r21_wp {Q : Exit → Act → World → Prop} {w : World} {rl : List Rel} {d j b o E : Nat} {wo : World} (hN : ∀ a', Frm 188 [(1, .pointer (some ⟨w.heap.size, 0, none⟩)), (2, .pointer (some ⟨w.heap.size + 1, 0, none⟩)), (77, .slice (some ⟨b, o, none⟩) rl.length d), (78, .int .i64 (rl.length : Nat)), (79, .int .i64 (j : Nat)), (6, .int .i64 (j : Nat)), (7, .pointer (some ⟨E, 0, none⟩)), (8, .int .i64 0)] a' → Q .normal a' wo) : ∀ ac, Frm 188 [(1, .pointer (some ⟨w.heap.size, 0, none⟩)), (2, .pointer (some ⟨w.heap.size + 1, 0, none⟩)), (77, .slice (some ⟨b, o, none⟩) rl.length d), (78, .int .i64 (rl.length : Nat)), (79, .int .i64 (j : Nat)), (6, .int .i64 (j : Nat)), (7, .pointer (some ⟨E, 0, none⟩))] ac → Code.wp Tryd.prog c_mr_r21 Q ac wo := by
  refine open_mr_r21 (P := fun a => Code.wp Tryd.prog c_mr_r21 Q a wo) ?_
  intro x0 x3 x4 x5 x8 x9 x10 x11 x12 x13 x14 x15 x16 x17 x18 x19 x20 x21 x22 x23 x24 x25 x26 x27 x28 x29 x30 x31 x32 x33 x34 x35 x36 x37 x38 x39 x40 x41 x42 x43 x44 x45 x46 x47 x48 x49 x50 x51 x52 x53 x54 x55 x56 x57 x58 x59 x60 x61 x62 x63 x64 x65 x66 x67 x68 x69 x70 x71 x72 x73 x74 x75 x76 x80 x81 x82 x83 x84 x85 x86 x87 x88 x89 x90 x91 x92 x93 x94 x95 x96 x97 x98 x99 x100 x101 x102 x103 x104 x105 x106 x107 x108 x109 x110 x111 x112 x113 x114 x115 x116 x117 x118 x119 x120 x121 x122 x123 x124 x125 x126 x127 x128 x129 x130 x131 x132 x133 x134 x135 x136 x137 x138 x139 x140 x141 x142 x143 x144 x145 x146 x147 x148 x149 x150 x151 x152 x153 x154 x155 x156 x157 x158 x159 x160 x161 x162 x163 x164 x165 x166 x167 x168 x169 x170 x171 x172 x173 x174 x175 x176 x177 x178 x179 x180 x181 x182 x183 x184 x185 x186 x187
  conv => arg 2; whnf
  have HN := Lib.hid hN
  clear hN
  go_wp2_with fail
  exact HN.out _ (id ⟨rfl, rfl, rfl, rfl, rfl, rfl, rfl, rfl, rfl, rfl, trivial⟩)
noncomputable def c_mr_r23 : Code := sub [1, 1, 1, 1, 0, 1, 0, 0, 1, 1, 0, 0, 1, 1, 0, 1, 0] (Tryd.f8.body.getD .skip)
set_option maxRecDepth 1000000 in
theorem open_mr_r23 {P : Act → Prop} {v0 v1 v2 v3 v4 v5 v6 v7 : Value} (h : ∀ x0 x3 x4 x5 x9 x10 x11 x12 x13 x14 x15 x16 x17 x18 x19 x20 x21 x22 x23 x24 x25 x26 x27 x28 x29 x30 x31 x32 x33 x34 x35 x36 x37 x38 x39 x40 x41 x42 x43 x44 x45 x46 x47 x48 x49 x50 x51 x52 x53 x54 x55 x56 x57 x58 x59 x60 x61 x62 x63 x64 x65 x66 x67 x68 x69 x70 x71 x72 x73 x74 x75 x76 x80 x81 x82 x83 x84 x85 x86 x87 x88 x89 x90 x91 x92 x93 x94 x95 x96 x97 x98 x99 x100 x101 x102 x103 x104 x105 x106 x107 x108 x109 x110 x111 x112 x113 x114 x115 x116 x117 x118 x119 x120 x121 x122 x123 x124 x125 x126 x127 x128 x129 x130 x131 x132 x133 x134 x135 x136 x137 x138 x139 x140 x141 x142 x143 x144 x145 x146 x147 x148 x149 x150 x151 x152 x153 x154 x155 x156 x157 x158 x159 x160 x161 x162 x163 x164 x165 x166 x167 x168 x169 x170 x171 x172 x173 x174 x175 x176 x177 x178 x179 x180 x181 x182 x183 x184 x185 x186 x187 : Value, P ⟨(x0 :: v0 :: v1 :: x3 :: x4 :: x5 :: v5 :: v6 :: v7 :: x9 :: x10 :: x11 :: x12 :: x13 :: x14 :: x15 :: x16 :: x17 :: x18 :: x19 :: x20 :: x21 :: x22 :: x23 :: x24 :: x25 :: x26 :: x27 :: x28 :: x29 :: x30 :: x31 :: x32 :: x33 :: x34 :: x35 :: x36 :: x37 :: x38 :: x39 :: x40 :: x41 :: x42 :: x43 :: x44 :: x45 :: x46 :: x47 :: x48 :: x49 :: x50 :: x51 :: x52 :: x53 :: x54 :: x55 :: x56 :: x57 :: x58 :: x59 :: x60 :: x61 :: x62 :: x63 :: x64 :: x65 :: x66 :: x67 :: x68 :: x69 :: x70 :: x71 :: x72 :: x73 :: x74 :: x75 :: x76 :: v2 :: v3 :: v4 :: x80 :: x81 :: x82 :: x83 :: x84 :: x85 :: x86 :: x87 :: x88 :: x89 :: x90 :: x91 :: x92 :: x93 :: x94 :: x95 :: x96 :: x97 :: x98 :: x99 :: x100 :: x101 :: x102 :: x103 :: x104 :: x105 :: x106 :: x107 :: x108 :: x109 :: x110 :: x111 :: x112 :: x113 :: x114 :: x115 :: x116 :: x117 :: x118 :: x119 :: x120 :: x121 :: x122 :: x123 :: x124 :: x125 :: x126 :: x127 :: x128 :: x129 :: x130 :: x131 :: x132 :: x133 :: x134 :: x135 :: x136 :: x137 :: x138 :: x139 :: x140 :: x141 :: x142 :: x143 :: x144 :: x145 :: x146 :: x147 :: x148 :: x149 :: x150 :: x151 :: x152 :: x153 :: x154 :: x155 :: x156 :: x157 :: x158 :: x159 :: x160 :: x161 :: x162 :: x163 :: x164 :: x165 :: x166 :: x167 :: x168 :: x169 :: x170 :: x171 :: x172 :: x173 :: x174 :: x175 :: x176 :: x177 :: x178 :: x179 :: x180 :: x181 :: x182 :: x183 :: x184 :: x185 :: x186 :: x187 :: []).toArray, []⟩) : ∀ a, Frm 188 [(1, v0), (2, v1), (77, v2), (78, v3), (79, v4), (6, v5), (7, v6), (8, v7)] a → P a := by
  rintro a ⟨h1, h2, e0, e1, e2, e3, e4, e5, e6, e7, _⟩
  revert e0 e1 e2 e3 e4 e5 e6 e7
  refine frame_mr (P := fun a => a.tmps.toList[1]? = some v0 → a.tmps.toList[2]? = some v1 → a.tmps.toList[77]? = some v2 → a.tmps.toList[78]? = some v3 → a.tmps.toList[79]? = some v4 → a.tmps.toList[6]? = some v5 → a.tmps.toList[7]? = some v6 → a.tmps.toList[8]? = some v7 → P a) ?_ a h1 h2
  intro x0 x1 x2 x3 x4 x5 x6 x7 x8 x9 x10 x11 x12 x13 x14 x15 x16 x17 x18 x19 x20 x21 x22 x23 x24 x25 x26 x27 x28 x29 x30 x31 x32 x33 x34 x35 x36 x37 x38 x39 x40 x41 x42 x43 x44 x45 x46 x47 x48 x49 x50 x51 x52 x53 x54 x55 x56 x57 x58 x59 x60 x61 x62 x63 x64 x65 x66 x67 x68 x69 x70 x71 x72 x73 x74 x75 x76 x77 x78 x79 x80 x81 x82 x83 x84 x85 x86 x87 x88 x89 x90 x91 x92 x93 x94 x95 x96 x97 x98 x99 x100 x101 x102 x103 x104 x105 x106 x107 x108 x109 x110 x111 x112 x113 x114 x115 x116 x117 x118 x119 x120 x121 x122 x123 x124 x125 x126 x127 x128 x129 x130 x131 x132 x133 x134 x135 x136 x137 x138 x139 x140 x141 x142 x143 x144 x145 x146 x147 x148 x149 x150 x151 x152 x153 x154 x155 x156 x157 x158 x159 x160 x161 x162 x163 x164 x165 x166 x167 x168 x169 x170 x171 x172 x173 x174 x175 x176 x177 x178 x179 x180 x181 x182 x183 x184 x185 x186 x187 e0 e1 e2 e3 e4 e5 e6 e7
  obtain rfl : x1 = v0 := Option.some.inj e0
  obtain rfl : x2 = v1 := Option.some.inj e1
  obtain rfl : x77 = v2 := Option.some.inj e2
  obtain rfl : x78 = v3 := Option.some.inj e3
  obtain rfl : x79 = v4 := Option.some.inj e4
  obtain rfl : x6 = v5 := Option.some.inj e5
  obtain rfl : x7 = v6 := Option.some.inj e6
  obtain rfl : x8 = v7 := Option.some.inj e7
  exact h x0 x3 x4 x5 x9 x10 x11 x12 x13 x14 x15 x16 x17 x18 x19 x20 x21 x22 x23 x24 x25 x26 x27 x28 x29 x30 x31 x32 x33 x34 x35 x36 x37 x38 x39 x40 x41 x42 x43 x44 x45 x46 x47 x48 x49 x50 x51 x52 x53 x54 x55 x56 x57 x58 x59 x60 x61 x62 x63 x64 x65 x66 x67 x68 x69 x70 x71 x72 x73 x74 x75 x76 x80 x81 x82 x83 x84 x85 x86 x87 x88 x89 x90 x91 x92 x93 x94 x95 x96 x97 x98 x99 x100 x101 x102 x103 x104 x105 x106 x107 x108 x109 x110 x111 x112 x113 x114 x115 x116 x117 x118 x119 x120 x121 x122 x123 x124 x125 x126 x127 x128 x129 x130 x131 x132 x133 x134 x135 x136 x137 x138 x139 x140 x141 x142 x143 x144 x145 x146 x147 x148 x149 x150 x151 x152 x153 x154 x155 x156 x157 x158 x159 x160 x161 x162 x163 x164 x165 x166 x167 x168 x169 x170 x171 x172 x173 x174 x175 x176 x177 x178 x179 x180 x181 x182 x183 x184 x185 x186 x187
set_option maxRecDepth 1000000 in
set_option maxHeartbeats 16000000 in
theorem mr_r23_wp {Q : Exit → Act → World → Prop} {w : World} {rl : List Rel} {d j b o E : Nat} {wo : World} (hN : ∀ a', Frm 188 [(1, .pointer (some ⟨w.heap.size, 0, none⟩)), (2, .pointer (some ⟨w.heap.size + 1, 0, none⟩)), (77, .slice (some ⟨b, o, none⟩) rl.length d), (78, .int .i64 (rl.length : Nat)), (79, .int .i64 (j : Nat)), (6, .int .i64 (j : Nat)), (7, .pointer (some ⟨E, 0, none⟩)), (8, .int .i64 10)] a' → Q .normal a' wo) : ∀ ac, Frm 188 [(1, .pointer (some ⟨w.heap.size, 0, none⟩)), (2, .pointer (some ⟨w.heap.size + 1, 0, none⟩)), (77, .slice (some ⟨b, o, none⟩) rl.length d), (78, .int .i64 (rl.length : Nat)), (79, .int .i64 (j : Nat)), (6, .int .i64 (j : Nat)), (7, .pointer (some ⟨E, 0, none⟩)), (8, .int .i64 0)] ac → Code.wp Tryd.prog c_mr_r23 Q ac wo := by
  refine open_mr_r23 (P := fun a => Code.wp Tryd.prog c_mr_r23 Q a wo) ?_
  intro x0 x3 x4 x5 x9 x10 x11 x12 x13 x14 x15 x16 x17 x18 x19 x20 x21 x22 x23 x24 x25 x26 x27 x28 x29 x30 x31 x32 x33 x34 x35 x36 x37 x38 x39 x40 x41 x42 x43 x44 x45 x46 x47 x48 x49 x50 x51 x52 x53 x54 x55 x56 x57 x58 x59 x60 x61 x62 x63 x64 x65 x66 x67 x68 x69 x70 x71 x72 x73 x74 x75 x76 x80 x81 x82 x83 x84 x85 x86 x87 x88 x89 x90 x91 x92 x93 x94 x95 x96 x97 x98 x99 x100 x101 x102 x103 x104 x105 x106 x107 x108 x109 x110 x111 x112 x113 x114 x115 x116 x117 x118 x119 x120 x121 x122 x123 x124 x125 x126 x127 x128 x129 x130 x131 x132 x133 x134 x135 x136 x137 x138 x139 x140 x141 x142 x143 x144 x145 x146 x147 x148 x149 x150 x151 x152 x153 x154 x155 x156 x157 x158 x159 x160 x161 x162 x163 x164 x165 x166 x167 x168 x169 x170 x171 x172 x173 x174 x175 x176 x177 x178 x179 x180 x181 x182 x183 x184 x185 x186 x187
  conv => arg 2; whnf
  have HN := Lib.hid hN
  clear hN
  go_wp2_with fail
  exact HN.out _ (id ⟨rfl, rfl, rfl, rfl, rfl, rfl, rfl, rfl, rfl, rfl, trivial⟩)
noncomputable def c_mr_r25 : Code := sub [1, 1, 1, 1, 0, 1, 0, 0, 1, 1, 0, 0, 1, 1, 0, 1, 1, 1, 0] (Tryd.f8.body.getD .skip)
set_option maxRecDepth 1000000 in
theorem open_mr_r25 {P : Act → Prop} {v0 v1 v2 v3 v4 v5 v6 v7 : Value} (h : ∀ x0 x3 x4 x5 x9 x10 x11 x12 x13 x14 x15 x16 x17 x18 x19 x20 x21 x22 x23 x24 x25 x26 x27 x28 x29 x30 x31 x32 x33 x34 x35 x36 x37 x38 x39 x40 x41 x42 x43 x44 x45 x46 x47 x48 x49 x50 x51 x52 x53 x54 x55 x56 x57 x58 x59 x60 x61 x62 x63 x64 x65 x66 x67 x68 x69 x70 x71 x72 x73 x74 x75 x76 x80 x81 x82 x83 x84 x85 x86 x87 x88 x89 x90 x91 x92 x93 x94 x95 x96 x97 x98 x99 x100 x101 x102 x103 x104 x105 x106 x107 x108 x109 x110 x111 x112 x113 x114 x115 x116 x117 x118 x119 x120 x121 x122 x123 x124 x125 x126 x127 x128 x129 x130 x131 x132 x133 x134 x135 x136 x137 x138 x139 x140 x141 x142 x143 x144 x145 x146 x147 x148 x149 x150 x151 x152 x153 x154 x155 x156 x157 x158 x159 x160 x161 x162 x163 x164 x165 x166 x167 x168 x169 x170 x171 x172 x173 x174 x175 x176 x177 x178 x179 x180 x181 x182 x183 x184 x185 x186 x187 : Value, P ⟨(x0 :: v0 :: v1 :: x3 :: x4 :: x5 :: v5 :: v6 :: v7 :: x9 :: x10 :: x11 :: x12 :: x13 :: x14 :: x15 :: x16 :: x17 :: x18 :: x19 :: x20 :: x21 :: x22 :: x23 :: x24 :: x25 :: x26 :: x27 :: x28 :: x29 :: x30 :: x31 :: x32 :: x33 :: x34 :: x35 :: x36 :: x37 :: x38 :: x39 :: x40 :: x41 :: x42 :: x43 :: x44 :: x45 :: x46 :: x47 :: x48 :: x49 :: x50 :: x51 :: x52 :: x53 :: x54 :: x55 :: x56 :: x57 :: x58 :: x59 :: x60 :: x61 :: x62 :: x63 :: x64 :: x65 :: x66 :: x67 :: x68 :: x69 :: x70 :: x71 :: x72 :: x73 :: x74 :: x75 :: x76 :: v2 :: v3 :: v4 :: x80 :: x81 :: x82 :: x83 :: x84 :: x85 :: x86 :: x87 :: x88 :: x89 :: x90 :: x91 :: x92 :: x93 :: x94 :: x95 :: x96 :: x97 :: x98 :: x99 :: x100 :: x101 :: x102 :: x103 :: x104 :: x105 :: x106 :: x107 :: x108 :: x109 :: x110 :: x111 :: x112 :: x113 :: x114 :: x115 :: x116 :: x117 :: x118 :: x119 :: x120 :: x121 :: x122 :: x123 :: x124 :: x125 :: x126 :: x127 :: x128 :: x129 :: x130 :: x131 :: x132 :: x133 :: x134 :: x135 :: x136 :: x137 :: x138 :: x139 :: x140 :: x141 :: x142 :: x143 :: x144 :: x145 :: x146 :: x147 :: x148 :: x149 :: x150 :: x151 :: x152 :: x153 :: x154 :: x155 :: x156 :: x157 :: x158 :: x159 :: x160 :: x161 :: x162 :: x163 :: x164 :: x165 :: x166 :: x167 :: x168 :: x169 :: x170 :: x171 :: x172 :: x173 :: x174 :: x175 :: x176 :: x177 :: x178 :: x179 :: x180 :: x181 :: x182 :: x183 :: x184 :: x185 :: x186 :: x187 :: []).toArray, []⟩) : ∀ a, Frm 188 [(1, v0), (2, v1), (77, v2), (78, v3), (79, v4), (6, v5), (7, v6), (8, v7)] a → P a := by
  rintro a ⟨h1, h2, e0, e1, e2, e3, e4, e5, e6, e7, _⟩
  revert e0 e1 e2 e3 e4 e5 e6 e7
  refine frame_mr (P := fun a => a.tmps.toList[1]? = some v0 → a.tmps.toList[2]? = some v1 → a.tmps.toList[77]? = some v2 → a.tmps.toList[78]? = some v3 → a.tmps.toList[79]? = some v4 → a.tmps.toList[6]? = some v5 → a.tmps.toList[7]? = some v6 → a.tmps.toList[8]? = some v7 → P a) ?_ a h1 h2
  intro x0 x1 x2 x3 x4 x5 x6 x7 x8 x9 x10 x11 x12 x13 x14 x15 x16 x17 x18 x19 x20 x21 x22 x23 x24 x25 x26 x27 x28 x29 x30 x31 x32 x33 x34 x35 x36 x37 x38 x39 x40 x41 x42 x43 x44 x45 x46 x47 x48 x49 x50 x51 x52 x53 x54 x55 x56 x57 x58 x59 x60 x61 x62 x63 x64 x65 x66 x67 x68 x69 x70 x71 x72 x73 x74 x75 x76 x77 x78 x79 x80 x81 x82 x83 x84 x85 x86 x87 x88 x89 x90 x91 x92 x93 x94 x95 x96 x97 x98 x99 x100 x101 x102 x103 x104 x105 x106 x107 x108 x109 x110 x111 x112 x113 x114 x115 x116 x117 x118 x119 x120 x121 x122 x123 x124 x125 x126 x127 x128 x129 x130 x131 x132 x133 x134 x135 x136 x137 x138 x139 x140 x141 x142 x143 x144 x145 x146 x147 x148 x149 x150 x151 x152 x153 x154 x155 x156 x157 x158 x159 x160 x161 x162 x163 x164 x165 x166 x167 x168 x169 x170 x171 x172 x173 x174 x175 x176 x177 x178 x179 x180 x181 x182 x183 x184 x185 x186 x187 e0 e1 e2 e3 e4 e5 e6 e7
  obtain rfl : x1 = v0 := Option.some.inj e0
  obtain rfl : x2 = v1 := Option.some.inj e1
  obtain rfl : x77 = v2 := Option.some.inj e2
  obtain rfl : x78 = v3 := Option.some.inj e3
  obtain rfl : x79 = v4 := Option.some.inj e4
  obtain rfl : x6 = v5 := Option.some.inj e5
  obtain rfl : x7 = v6 := Option.some.inj e6
  obtain rfl : x8 = v7 := Option.some.inj e7
  exact h x0 x3 x4 x5 x9 x10 x11 x12 x13 x14 x15 x16 x17 x18 x19 x20 x21 x22 x23 x24 x25 x26 x27 x28 x29 x30 x31 x32 x33 x34 x35 x36 x37 x38 x39 x40 x41 x42 x43 x44 x45 x46 x47 x48 x49 x50 x51 x52 x53 x54 x55 x56 x57 x58 x59 x60 x61 x62 x63 x64 x65 x66 x67 x68 x69 x70 x71 x72 x73 x74 x75 x76 x80 x81 x82 x83 x84 x85 x86 x87 x88 x89 x90 x91 x92 x93 x94 x95 x96 x97 x98 x99 x100 x101 x102 x103 x104 x105 x106 x107 x108 x109 x110 x111 x112 x113 x114 x115 x116 x117 x118 x119 x120 x121 x122 x123 x124 x125 x126 x127 x128 x129 x130 x131 x132 x133 x134 x135 x136 x137 x138 x139 x140 x141 x142 x143 x144 x145 x146 x147 x148 x149 x150 x151 x152 x153 x154 x155 x156 x157 x158 x159 x160 x161 x162 x163 x164 x165 x166 x167 x168 x169 x170 x171 x172 x173 x174 x175 x176 x177 x178 x179 x180 x181 x182 x183 x184 x185 x186 x187
set_option maxRecDepth 1000000 in
set_option maxHeartbeats 16000000 in
theorem mr_r25_wp {Q : Exit → Act → World → Prop} {w : World} {rl : List Rel} {d j b o E : Nat} {wo : World} (hN : ∀ a', Frm 188 [(1, .pointer (some ⟨w.heap.size, 0, none⟩)), (2, .pointer (some ⟨w.heap.size + 1, 0, none⟩)), (77, .slice (some ⟨b, o, none⟩) rl.length d), (78, .int .i64 (rl.length : Nat)), (79, .int .i64 (j : Nat)), (6, .int .i64 (j : Nat)), (7, .pointer (some ⟨E, 0, none⟩)), (8, .int .i64 3)] a' → Q .normal a' wo) : ∀ ac, Frm 188 [(1, .pointer (some ⟨w.heap.size, 0, none⟩)), (2, .pointer (some ⟨w.heap.size + 1, 0, none⟩)), (77, .slice (some ⟨b, o, none⟩) rl.length d), (78, .int .i64 (rl.length : Nat)), (79, .int .i64 (j : Nat)), (6, .int .i64 (j : Nat)), (7, .pointer (some ⟨E, 0, none⟩)), (8, .int .i64 0)] ac → Code.wp Tryd.prog c_mr_r25 Q ac wo := by
  refine open_mr_r25 (P := fun a => Code.wp Tryd.prog c_mr_r25 Q a wo) ?_
  intro x0 x3 x4 x5 x9 x10 x11 x12 x13 x14 x15 x16 x17 x18 x19 x20 x21 x22 x23 x24 x25 x26 x27 x28 x29 x30 x31 x32 x33 x34 x35 x36 x37 x38 x39 x40 x41 x42 x43 x44 x45 x46 x47 x48 x49 x50 x51 x52 x53 x54 x55 x56 x57 x58 x59 x60 x61 x62 x63 x64 x65 x66 x67 x68 x69 x70 x71 x72 x73 x74 x75 x76 x80 x81 x82 x83 x84 x85 x86 x87 x88 x89 x90 x91 x92 x93 x94 x95 x96 x97 x98 x99 x100 x101 x102 x103 x104 x105 x106 x107 x108 x109 x110 x111 x112 x113 x114 x115 x116 x117 x118 x119 x120 x121 x122 x123 x124 x125 x126 x127 x128 x129 x130 x131 x132 x133 x134 x135 x136 x137 x138 x139 x140 x141 x142 x143 x144 x145 x146 x147 x148 x149 x150 x151 x152 x153 x154 x155 x156 x157 x158 x159 x160 x161 x162 x163 x164 x165 x166 x167 x168 x169 x170 x171 x172 x173 x174 x175 x176 x177 x178 x179 x180 x181 x182 x183 x184 x185 x186 x187
  conv => arg 2; whnf
  have HN := Lib.hid hN
  clear hN
  go_wp2_with fail
  exact HN.out _ (id ⟨rfl, rfl, rfl, rfl, rfl, rfl, rfl, rfl, rfl, rfl, trivial⟩)
noncomputable def c_mr_r30 : Code := sub [1, 1, 1, 1, 0, 1, 0, 0, 1, 1, 0, 0, 1, 1, 1, 0, 0] (Tryd.f8.body.getD .skip)
set_option maxRecDepth 1000000 in
theorem open_mr_r30 {P : Act → Prop} {v0 v1 v2 v3 v4 v5 v6 v7 : Value} (h : ∀ x0 x3 x4 x5 x9 x10 x11 x12 x13 x14 x15 x16 x17 x18 x19 x20 x21 x22 x23 x24 x25 x26 x27 x28 x29 x30 x31 x32 x33 x34 x35 x36 x37 x38 x39 x40 x41 x42 x43 x44 x45 x46 x47 x48 x49 x50 x51 x52 x53 x54 x55 x56 x57 x58 x59 x60 x61 x62 x63 x64 x65 x66 x67 x68 x69 x70 x71 x72 x73 x74 x75 x76 x80 x81 x82 x83 x84 x85 x86 x87 x88 x89 x90 x91 x92 x93 x94 x95 x96 x97 x98 x99 x100 x101 x102 x103 x104 x105 x106 x107 x108 x109 x110 x111 x112 x113 x114 x115 x116 x117 x118 x119 x120 x121 x122 x123 x124 x125 x126 x127 x128 x129 x130 x131 x132 x133 x134 x135 x136 x137 x138 x139 x140 x141 x142 x143 x144 x145 x146 x147 x148 x149 x150 x151 x152 x153 x154 x155 x156 x157 x158 x159 x160 x161 x162 x163 x164 x165 x166 x167 x168 x169 x170 x171 x172 x173 x174 x175 x176 x177 x178 x179 x180 x181 x182 x183 x184 x185 x186 x187 : Value, P ⟨(x0 :: v0 :: v1 :: x3 :: x4 :: x5 :: v5 :: v6 :: v7 :: x9 :: x10 :: x11 :: x12 :: x13 :: x14 :: x15 :: x16 :: x17 :: x18 :: x19 :: x20 :: x21 :: x22 :: x23 :: x24 :: x25 :: x26 :: x27 :: x28 :: x29 :: x30 :: x31 :: x32 :: x33 :: x34 :: x35 :: x36 :: x37 :: x38 :: x39 :: x40 :: x41 :: x42 :: x43 :: x44 :: x45 :: x46 :: x47 :: x48 :: x49 :: x50 :: x51 :: x52 :: x53 :: x54 :: x55 :: x56 :: x57 :: x58 :: x59 :: x60 :: x61 :: x62 :: x63 :: x64 :: x65 :: x66 :: x67 :: x68 :: x69 :: x70 :: x71 :: x72 :: x73 :: x74 :: x75 :: x76 :: v2 :: v3 :: v4 :: x80 :: x81 :: x82 :: x83 :: x84 :: x85 :: x86 :: x87 :: x88 :: x89 :: x90 :: x91 :: x92 :: x93 :: x94 :: x95 :: x96 :: x97 :: x98 :: x99 :: x100 :: x101 :: x102 :: x103 :: x104 :: x105 :: x106 :: x107 :: x108 :: x109 :: x110 :: x111 :: x112 :: x113 :: x114 :: x115 :: x116 :: x117 :: x118 :: x119 :: x120 :: x121 :: x122 :: x123 :: x124 :: x125 :: x126 :: x127 :: x128 :: x129 :: x130 :: x131 :: x132 :: x133 :: x134 :: x135 :: x136 :: x137 :: x138 :: x139 :: x140 :: x141 :: x142 :: x143 :: x144 :: x145 :: x146 :: x147 :: x148 :: x149 :: x150 :: x151 :: x152 :: x153 :: x154 :: x155 :: x156 :: x157 :: x158 :: x159 :: x160 :: x161 :: x162 :: x163 :: x164 :: x165 :: x166 :: x167 :: x168 :: x169 :: x170 :: x171 :: x172 :: x173 :: x174 :: x175 :: x176 :: x177 :: x178 :: x179 :: x180 :: x181 :: x182 :: x183 :: x184 :: x185 :: x186 :: x187 :: []).toArray, []⟩) : ∀ a, Frm 188 [(1, v0), (2, v1), (77, v2), (78, v3), (79, v4), (6, v5), (7, v6), (8, v7)] a → P a := by
  rintro a ⟨h1, h2, e0, e1, e2, e3, e4, e5, e6, e7, _⟩
  revert e0 e1 e2 e3 e4 e5 e6 e7
  refine frame_mr (P := fun a => a.tmps.toList[1]? = some v0 → a.tmps.toList[2]? = some v1 → a.tmps.toList[77]? = some v2 → a.tmps.toList[78]? = some v3 → a.tmps.toList[79]? = some v4 → a.tmps.toList[6]? = some v5 → a.tmps.toList[7]? = some v6 → a.tmps.toList[8]? = some v7 → P a) ?_ a h1 h2
  intro x0 x1 x2 x3 x4 x5 x6 x7 x8 x9 x10 x11 x12 x13 x14 x15 x16 x17 x18 x19 x20 x21 x22 x23 x24 x25 x26 x27 x28 x29 x30 x31 x32 x33 x34 x35 x36 x37 x38 x39 x40 x41 x42 x43 x44 x45 x46 x47 x48 x49 x50 x51 x52 x53 x54 x55 x56 x57 x58 x59 x60 x61 x62 x63 x64 x65 x66 x67 x68 x69 x70 x71 x72 x73 x74 x75 x76 x77 x78 x79 x80 x81 x82 x83 x84 x85 x86 x87 x88 x89 x90 x91 x92 x93 x94 x95 x96 x97 x98 x99 x100 x101 x102 x103 x104 x105 x106 x107 x108 x109 x110 x111 x112 x113 x114 x115 x116 x117 x118 x119 x120 x121 x122 x123 x124 x125 x126 x127 x128 x129 x130 x131 x132 x133 x134 x135 x136 x137 x138 x139 x140 x141 x142 x143 x144 x145 x146 x147 x148 x149 x150 x151 x152 x153 x154 x155 x156 x157 x158 x159 x160 x161 x162 x163 x164 x165 x166 x167 x168 x169 x170 x171 x172 x173 x174 x175 x176 x177 x178 x179 x180 x181 x182 x183 x184 x185 x186 x187 e0 e1 e2 e3 e4 e5 e6 e7
  obtain rfl : x1 = v0 := Option.some.inj e0
  obtain rfl : x2 = v1 := Option.some.inj e1
  obtain rfl : x77 = v2 := Option.some.inj e2
  obtain rfl : x78 = v3 := Option.some.inj e3
  obtain rfl : x79 = v4 := Option.some.inj e4
  obtain rfl : x6 = v5 := Option.some.inj e5
  obtain rfl : x7 = v6 := Option.some.inj e6
  obtain rfl : x8 = v7 := Option.some.inj e7
  exact h x0 x3 x4 x5 x9 x10 x11 x12 x13 x14 x15 x16 x17 x18 x19 x20 x21 x22 x23 x24 x25 x26 x27 x28 x29 x30 x31 x32 x33 x34 x35 x36 x37 x38 x39 x40 x41 x42 x43 x44 x45 x46 x47 x48 x49 x50 x51 x52 x53 x54 x55 x56 x57 x58 x59 x60 x61 x62 x63 x64 x65 x66 x67 x68 x69 x70 x71 x72 x73 x74 x75 x76 x80 x81 x82 x83 x84 x85 x86 x87 x88 x89 x90 x91 x92 x93 x94 x95 x96 x97 x98 x99 x100 x101 x102 x103 x104 x105 x106 x107 x108 x109 x110 x111 x112 x113 x114 x115 x116 x117 x118 x119 x120 x121 x122 x123 x124 x125 x126 x127 x128 x129 x130 x131 x132 x133 x134 x135 x136 x137 x138 x139 x140 x141 x142 x143 x144 x145 x146 x147 x148 x149 x150 x151 x152 x153 x154 x155 x156 x157 x158 x159 x160 x161 x162 x163 x164 x165 x166 x167 x168 x169 x170 x171 x172 x173 x174 x175 x176 x177 x178 x179 x180 x181 x182 x183 x184 x185 x186 x187
set_option maxRecDepth 1000000 in
set_option maxHeartbeats 16000000 in
theorem mr_r30_wp {Q : Exit → Act → World → Prop} {w : World} {rl : List Rel} {d j b o E : Nat} {k : Nat} {wo : World} (hN : ∀ a', Frm 188 [(1, .pointer (some ⟨w.heap.size, 0, none⟩)), (2, .pointer (some ⟨w.heap.size + 1, 0, none⟩)), (77, .slice (some ⟨b, o, none⟩) rl.length d), (78, .int .i64 (rl.length : Nat)), (79, .int .i64 (j : Nat)), (6, .int .i64 (j : Nat)), (7, .pointer (some ⟨E, 0, none⟩)), (8, .int .i64 (k : Nat)), (10, .int .i64 0)] a' → Q .normal a' wo) : ∀ ac, Frm 188 [(1, .pointer (some ⟨w.heap.size, 0, none⟩)), (2, .pointer (some ⟨w.heap.size + 1, 0, none⟩)), (77, .slice (some ⟨b, o, none⟩) rl.length d), (78, .int .i64 (rl.length : Nat)), (79, .int .i64 (j : Nat)), (6, .int .i64 (j : Nat)), (7, .pointer (some ⟨E, 0, none⟩)), (8, .int .i64 (k : Nat))] ac → Code.wp Tryd.prog c_mr_r30 Q ac wo := by
  refine open_mr_r30 (P := fun a => Code.wp Tryd.prog c_mr_r30 Q a wo) ?_
  intro x0 x3 x4 x5 x9 x10 x11 x12 x13 x14 x15 x16 x17 x18 x19 x20 x21 x22 x23 x24 x25 x26 x27 x28 x29 x30 x31 x32 x33 x34 x35 x36 x37 x38 x39 x40 x41 x42 x43 x44 x45 x46 x47 x48 x49 x50 x51 x52 x53 x54 x55 x56 x57 x58 x59 x60 x61 x62 x63 x64 x65 x66 x67 x68 x69 x70 x71 x72 x73 x74 x75 x76 x80 x81 x82 x83 x84 x85 x86 x87 x88 x89 x90 x91 x92 x93 x94 x95 x96 x97 x98 x99 x100 x101 x102 x103 x104 x105 x106 x107 x108 x109 x110 x111 x112 x113 x114 x115 x116 x117 x118 x119 x120 x121 x122 x123 x124 x125 x126 x127 x128 x129 x130 x131 x132 x133 x134 x135 x136 x137 x138 x139 x140 x141 x142 x143 x144 x145 x146 x147 x148 x149 x150 x151 x152 x153 x154 x155 x156 x157 x158 x159 x160 x161 x162 x163 x164 x165 x166 x167 x168 x169 x170 x171 x172 x173 x174 x175 x176 x177 x178 x179 x180 x181 x182 x183 x184 x185 x186 x187
  conv => arg 2; whnf
  have HN := Lib.hid hN
  clear hN
  go_wp2_with fail
  exact HN.out _ (id ⟨rfl, rfl, rfl, rfl, rfl, rfl, rfl, rfl, rfl, rfl, rfl, trivial⟩)
noncomputable def c_mr_r22 : Code := sub [1, 1, 1, 1, 0, 1, 0, 0, 1, 1, 0, 0, 1, 1, 0, 0] (Tryd.f8.body.getD .skip)
set_option maxRecDepth 1000000 in
theorem open_mr_r22 {P : Act → Prop} {v0 v1 v2 v3 v4 v5 v6 v7 : Value} (h : ∀ x0 x3 x4 x5 x9 x10 x11 x12 x13 x14 x15 x16 x17 x18 x19 x20 x21 x22 x23 x24 x25 x26 x27 x28 x29 x30 x31 x32 x33 x34 x35 x36 x37 x38 x39 x40 x41 x42 x43 x44 x45 x46 x47 x48 x49 x50 x51 x52 x53 x54 x55 x56 x57 x58 x59 x60 x61 x62 x63 x64 x65 x66 x67 x68 x69 x70 x71 x72 x73 x74 x75 x76 x80 x81 x82 x83 x84 x85 x86 x87 x88 x89 x90 x91 x92 x93 x94 x95 x96 x97 x98 x99 x100 x101 x102 x103 x104 x105 x106 x107 x108 x109 x110 x111 x112 x113 x114 x115 x116 x117 x118 x119 x120 x121 x122 x123 x124 x125 x126 x127 x128 x129 x130 x131 x132 x133 x134 x135 x136 x137 x138 x139 x140 x141 x142 x143 x144 x145 x146 x147 x148 x149 x150 x151 x152 x153 x154 x155 x156 x157 x158 x159 x160 x161 x162 x163 x164 x165 x166 x167 x168 x169 x170 x171 x172 x173 x174 x175 x176 x177 x178 x179 x180 x181 x182 x183 x184 x185 x186 x187 : Value, P ⟨(x0 :: v0 :: v1 :: x3 :: x4 :: x5 :: v5 :: v6 :: v7 :: x9 :: x10 :: x11 :: x12 :: x13 :: x14 :: x15 :: x16 :: x17 :: x18 :: x19 :: x20 :: x21 :: x22 :: x23 :: x24 :: x25 :: x26 :: x27 :: x28 :: x29 :: x30 :: x31 :: x32 :: x33 :: x34 :: x35 :: x36 :: x37 :: x38 :: x39 :: x40 :: x41 :: x42 :: x43 :: x44 :: x45 :: x46 :: x47 :: x48 :: x49 :: x50 :: x51 :: x52 :: x53 :: x54 :: x55 :: x56 :: x57 :: x58 :: x59 :: x60 :: x61 :: x62 :: x63 :: x64 :: x65 :: x66 :: x67 :: x68 :: x69 :: x70 :: x71 :: x72 :: x73 :: x74 :: x75 :: x76 :: v2 :: v3 :: v4 :: x80 :: x81 :: x82 :: x83 :: x84 :: x85 :: x86 :: x87 :: x88 :: x89 :: x90 :: x91 :: x92 :: x93 :: x94 :: x95 :: x96 :: x97 :: x98 :: x99 :: x100 :: x101 :: x102 :: x103 :: x104 :: x105 :: x106 :: x107 :: x108 :: x109 :: x110 :: x111 :: x112 :: x113 :: x114 :: x115 :: x116 :: x117 :: x118 :: x119 :: x120 :: x121 :: x122 :: x123 :: x124 :: x125 :: x126 :: x127 :: x128 :: x129 :: x130 :: x131 :: x132 :: x133 :: x134 :: x135 :: x136 :: x137 :: x138 :: x139 :: x140 :: x141 :: x142 :: x143 :: x144 :: x145 :: x146 :: x147 :: x148 :: x149 :: x150 :: x151 :: x152 :: x153 :: x154 :: x155 :: x156 :: x157 :: x158 :: x159 :: x160 :: x161 :: x162 :: x163 :: x164 :: x165 :: x166 :: x167 :: x168 :: x169 :: x170 :: x171 :: x172 :: x173 :: x174 :: x175 :: x176 :: x177 :: x178 :: x179 :: x180 :: x181 :: x182 :: x183 :: x184 :: x185 :: x186 :: x187 :: []).toArray, []⟩) : ∀ a, Frm 188 [(1, v0), (2, v1), (77, v2), (78, v3), (79, v4), (6, v5), (7, v6), (8, v7)] a → P a := by
  rintro a ⟨h1, h2, e0, e1, e2, e3, e4, e5, e6, e7, _⟩
  revert e0 e1 e2 e3 e4 e5 e6 e7
  refine frame_mr (P := fun a => a.tmps.toList[1]? = some v0 → a.tmps.toList[2]? = some v1 → a.tmps.toList[77]? = some v2 → a.tmps.toList[78]? = some v3 → a.tmps.toList[79]? = some v4 → a.tmps.toList[6]? = some v5 → a.tmps.toList[7]? = some v6 → a.tmps.toList[8]? = some v7 → P a) ?_ a h1 h2
  intro x0 x1 x2 x3 x4 x5 x6 x7 x8 x9 x10 x11 x12 x13 x14 x15 x16 x17 x18 x19 x20 x21 x22 x23 x24 x25 x26 x27 x28 x29 x30 x31 x32 x33 x34 x35 x36 x37 x38 x39 x40 x41 x42 x43 x44 x45 x46 x47 x48 x49 x50 x51 x52 x53 x54 x55 x56 x57 x58 x59 x60 x61 x62 x63 x64 x65 x66 x67 x68 x69 x70 x71 x72 x73 x74 x75 x76 x77 x78 x79 x80 x81 x82 x83 x84 x85 x86 x87 x88 x89 x90 x91 x92 x93 x94 x95 x96 x97 x98 x99 x100 x101 x102 x103 x104 x105 x106 x107 x108 x109 x110 x111 x112 x113 x114 x115 x116 x117 x118 x119 x120 x121 x122 x123 x124 x125 x126 x127 x128 x129 x130 x131 x132 x133 x134 x135 x136 x137 x138 x139 x140 x141 x142 x143 x144 x145 x146 x147 x148 x149 x150 x151 x152 x153 x154 x155 x156 x157 x158 x159 x160 x161 x162 x163 x164 x165 x166 x167 x168 x169 x170 x171 x172 x173 x174 x175 x176 x177 x178 x179 x180 x181 x182 x183 x184 x185 x186 x187 e0 e1 e2 e3 e4 e5 e6 e7
  obtain rfl : x1 = v0 := Option.some.inj e0
  obtain rfl : x2 = v1 := Option.some.inj e1
  obtain rfl : x77 = v2 := Option.some.inj e2
  obtain rfl : x78 = v3 := Option.some.inj e3
  obtain rfl : x79 = v4 := Option.some.inj e4
  obtain rfl : x6 = v5 := Option.some.inj e5
  obtain rfl : x7 = v6 := Option.some.inj e6
  obtain rfl : x8 = v7 := Option.some.inj e7
  exact h x0 x3 x4 x5 x9 x10 x11 x12 x13 x14 x15 x16 x17 x18 x19 x20 x21 x22 x23 x24 x25 x26 x27 x28 x29 x30 x31 x32 x33 x34 x35 x36 x37 x38 x39 x40 x41 x42 x43 x44 x45 x46 x47 x48 x49 x50 x51 x52 x53 x54 x55 x56 x57 x58 x59 x60 x61 x62 x63 x64 x65 x66 x67 x68 x69 x70 x71 x72 x73 x74 x75 x76 x80 x81 x82 x83 x84 x85 x86 x87 x88 x89 x90 x91 x92 x93 x94 x95 x96 x97 x98 x99 x100 x101 x102 x103 x104 x105 x106 x107 x108 x109 x110 x111 x112 x113 x114 x115 x116 x117 x118 x119 x120 x121 x122 x123 x124 x125 x126 x127 x128 x129 x130 x131 x132 x133 x134 x135 x136 x137 x138 x139 x140 x141 x142 x143 x144 x145 x146 x147 x148 x149 x150 x151 x152 x153 x154 x155 x156 x157 x158 x159 x160 x161 x162 x163 x164 x165 x166 x167 x168 x169 x170 x171 x172 x173 x174 x175 x176 x177 x178 x179 x180 x181 x182 x183 x184 x185 x186 x187
set_option maxRecDepth 1000000 in
set_option maxHeartbeats 16000000 in
theorem mr_r22_wp {Q : Exit → Act → World → Prop} {w : World} {rl : List Rel} {d j b o E : Nat} {nm : ByteArray} {ar : Int} {T : Option Addr} {tp : List (List Int)} {t : Nat} {wo : World} (hn : nm.size ≤ maxLen) (hpx : wo.heap[E]? = some (.cells #[.string nm, .int .i64 ar, .slice T tp.length t] 48 (0, 0))) (hN : ∀ a', Frm 188 [(1, .pointer (some ⟨w.heap.size, 0, none⟩)), (2, .pointer (some ⟨w.heap.size + 1, 0, none⟩)), (77, .slice (some ⟨b, o, none⟩) rl.length d), (78, .int .i64 (rl.length : Nat)), (79, .int .i64 (j : Nat)), (6, .int .i64 (j : Nat)), (7, .pointer (some ⟨E, 0, none⟩)), (8, .int .i64 0), (87, .bool (!okName nm))] a' → Q .normal a' wo) : ∀ ac, Frm 188 [(1, .pointer (some ⟨w.heap.size, 0, none⟩)), (2, .pointer (some ⟨w.heap.size + 1, 0, none⟩)), (77, .slice (some ⟨b, o, none⟩) rl.length d), (78, .int .i64 (rl.length : Nat)), (79, .int .i64 (j : Nat)), (6, .int .i64 (j : Nat)), (7, .pointer (some ⟨E, 0, none⟩)), (8, .int .i64 0)] ac → Code.wp Tryd.prog c_mr_r22 Q ac wo := by
  refine open_mr_r22 (P := fun a => Code.wp Tryd.prog c_mr_r22 Q a wo) ?_
  intro x0 x3 x4 x5 x9 x10 x11 x12 x13 x14 x15 x16 x17 x18 x19 x20 x21 x22 x23 x24 x25 x26 x27 x28 x29 x30 x31 x32 x33 x34 x35 x36 x37 x38 x39 x40 x41 x42 x43 x44 x45 x46 x47 x48 x49 x50 x51 x52 x53 x54 x55 x56 x57 x58 x59 x60 x61 x62 x63 x64 x65 x66 x67 x68 x69 x70 x71 x72 x73 x74 x75 x76 x80 x81 x82 x83 x84 x85 x86 x87 x88 x89 x90 x91 x92 x93 x94 x95 x96 x97 x98 x99 x100 x101 x102 x103 x104 x105 x106 x107 x108 x109 x110 x111 x112 x113 x114 x115 x116 x117 x118 x119 x120 x121 x122 x123 x124 x125 x126 x127 x128 x129 x130 x131 x132 x133 x134 x135 x136 x137 x138 x139 x140 x141 x142 x143 x144 x145 x146 x147 x148 x149 x150 x151 x152 x153 x154 x155 x156 x157 x158 x159 x160 x161 x162 x163 x164 x165 x166 x167 x168 x169 x170 x171 x172 x173 x174 x175 x176 x177 x178 x179 x180 x181 x182 x183 x184 x185 x186 x187
  conv => arg 2; whnf
  have hnm := fun W : World => refName_any nm W hn
  obtain ⟨ok, hok⟩ : ∃ ok, okName nm = ok := ⟨_, rfl⟩
  rw [hok] at hnm
  have HN := Lib.hid hN
  have HNM := Lib.hid hnm
  have HOK := Lib.hid hok
  clear hN hnm hok
  have px := hpx
  clear hpx
  have px_0 := cv0 px
  have px_1 := cv1 px
  have px_2 := cv2 px
  have px_l := lt_heap px
  have PX := Lib.hid px
  clear px
  go_wp2_with fail
  (with_reducible refine (HNM.out _).mono ?_)
  rintro e wz ⟨rfl, rfl⟩
  go_wp2_with fail
  rw [← HOK.out]
  exact HN.out _ (id ⟨rfl, rfl, rfl, rfl, rfl, rfl, rfl, rfl, rfl, rfl, rfl, trivial⟩)
noncomputable def c_mr_r24 : Code := sub [1, 1, 1, 1, 0, 1, 0, 0, 1, 1, 0, 0, 1, 1, 0, 1, 1, 0] (Tryd.f8.body.getD .skip)
set_option maxRecDepth 1000000 in
theorem open_mr_r24 {P : Act → Prop} {v0 v1 v2 v3 v4 v5 v6 v7 : Value} (h : ∀ x0 x3 x4 x5 x9 x10 x11 x12 x13 x14 x15 x16 x17 x18 x19 x20 x21 x22 x23 x24 x25 x26 x27 x28 x29 x30 x31 x32 x33 x34 x35 x36 x37 x38 x39 x40 x41 x42 x43 x44 x45 x46 x47 x48 x49 x50 x51 x52 x53 x54 x55 x56 x57 x58 x59 x60 x61 x62 x63 x64 x65 x66 x67 x68 x69 x70 x71 x72 x73 x74 x75 x76 x80 x81 x82 x83 x84 x85 x86 x87 x88 x89 x90 x91 x92 x93 x94 x95 x96 x97 x98 x99 x100 x101 x102 x103 x104 x105 x106 x107 x108 x109 x110 x111 x112 x113 x114 x115 x116 x117 x118 x119 x120 x121 x122 x123 x124 x125 x126 x127 x128 x129 x130 x131 x132 x133 x134 x135 x136 x137 x138 x139 x140 x141 x142 x143 x144 x145 x146 x147 x148 x149 x150 x151 x152 x153 x154 x155 x156 x157 x158 x159 x160 x161 x162 x163 x164 x165 x166 x167 x168 x169 x170 x171 x172 x173 x174 x175 x176 x177 x178 x179 x180 x181 x182 x183 x184 x185 x186 x187 : Value, P ⟨(x0 :: v0 :: v1 :: x3 :: x4 :: x5 :: v5 :: v6 :: v7 :: x9 :: x10 :: x11 :: x12 :: x13 :: x14 :: x15 :: x16 :: x17 :: x18 :: x19 :: x20 :: x21 :: x22 :: x23 :: x24 :: x25 :: x26 :: x27 :: x28 :: x29 :: x30 :: x31 :: x32 :: x33 :: x34 :: x35 :: x36 :: x37 :: x38 :: x39 :: x40 :: x41 :: x42 :: x43 :: x44 :: x45 :: x46 :: x47 :: x48 :: x49 :: x50 :: x51 :: x52 :: x53 :: x54 :: x55 :: x56 :: x57 :: x58 :: x59 :: x60 :: x61 :: x62 :: x63 :: x64 :: x65 :: x66 :: x67 :: x68 :: x69 :: x70 :: x71 :: x72 :: x73 :: x74 :: x75 :: x76 :: v2 :: v3 :: v4 :: x80 :: x81 :: x82 :: x83 :: x84 :: x85 :: x86 :: x87 :: x88 :: x89 :: x90 :: x91 :: x92 :: x93 :: x94 :: x95 :: x96 :: x97 :: x98 :: x99 :: x100 :: x101 :: x102 :: x103 :: x104 :: x105 :: x106 :: x107 :: x108 :: x109 :: x110 :: x111 :: x112 :: x113 :: x114 :: x115 :: x116 :: x117 :: x118 :: x119 :: x120 :: x121 :: x122 :: x123 :: x124 :: x125 :: x126 :: x127 :: x128 :: x129 :: x130 :: x131 :: x132 :: x133 :: x134 :: x135 :: x136 :: x137 :: x138 :: x139 :: x140 :: x141 :: x142 :: x143 :: x144 :: x145 :: x146 :: x147 :: x148 :: x149 :: x150 :: x151 :: x152 :: x153 :: x154 :: x155 :: x156 :: x157 :: x158 :: x159 :: x160 :: x161 :: x162 :: x163 :: x164 :: x165 :: x166 :: x167 :: x168 :: x169 :: x170 :: x171 :: x172 :: x173 :: x174 :: x175 :: x176 :: x177 :: x178 :: x179 :: x180 :: x181 :: x182 :: x183 :: x184 :: x185 :: x186 :: x187 :: []).toArray, []⟩) : ∀ a, Frm 188 [(1, v0), (2, v1), (77, v2), (78, v3), (79, v4), (6, v5), (7, v6), (8, v7)] a → P a := by
  rintro a ⟨h1, h2, e0, e1, e2, e3, e4, e5, e6, e7, _⟩
  revert e0 e1 e2 e3 e4 e5 e6 e7
  refine frame_mr (P := fun a => a.tmps.toList[1]? = some v0 → a.tmps.toList[2]? = some v1 → a.tmps.toList[77]? = some v2 → a.tmps.toList[78]? = some v3 → a.tmps.toList[79]? = some v4 → a.tmps.toList[6]? = some v5 → a.tmps.toList[7]? = some v6 → a.tmps.toList[8]? = some v7 → P a) ?_ a h1 h2
  intro x0 x1 x2 x3 x4 x5 x6 x7 x8 x9 x10 x11 x12 x13 x14 x15 x16 x17 x18 x19 x20 x21 x22 x23 x24 x25 x26 x27 x28 x29 x30 x31 x32 x33 x34 x35 x36 x37 x38 x39 x40 x41 x42 x43 x44 x45 x46 x47 x48 x49 x50 x51 x52 x53 x54 x55 x56 x57 x58 x59 x60 x61 x62 x63 x64 x65 x66 x67 x68 x69 x70 x71 x72 x73 x74 x75 x76 x77 x78 x79 x80 x81 x82 x83 x84 x85 x86 x87 x88 x89 x90 x91 x92 x93 x94 x95 x96 x97 x98 x99 x100 x101 x102 x103 x104 x105 x106 x107 x108 x109 x110 x111 x112 x113 x114 x115 x116 x117 x118 x119 x120 x121 x122 x123 x124 x125 x126 x127 x128 x129 x130 x131 x132 x133 x134 x135 x136 x137 x138 x139 x140 x141 x142 x143 x144 x145 x146 x147 x148 x149 x150 x151 x152 x153 x154 x155 x156 x157 x158 x159 x160 x161 x162 x163 x164 x165 x166 x167 x168 x169 x170 x171 x172 x173 x174 x175 x176 x177 x178 x179 x180 x181 x182 x183 x184 x185 x186 x187 e0 e1 e2 e3 e4 e5 e6 e7
  obtain rfl : x1 = v0 := Option.some.inj e0
  obtain rfl : x2 = v1 := Option.some.inj e1
  obtain rfl : x77 = v2 := Option.some.inj e2
  obtain rfl : x78 = v3 := Option.some.inj e3
  obtain rfl : x79 = v4 := Option.some.inj e4
  obtain rfl : x6 = v5 := Option.some.inj e5
  obtain rfl : x7 = v6 := Option.some.inj e6
  obtain rfl : x8 = v7 := Option.some.inj e7
  exact h x0 x3 x4 x5 x9 x10 x11 x12 x13 x14 x15 x16 x17 x18 x19 x20 x21 x22 x23 x24 x25 x26 x27 x28 x29 x30 x31 x32 x33 x34 x35 x36 x37 x38 x39 x40 x41 x42 x43 x44 x45 x46 x47 x48 x49 x50 x51 x52 x53 x54 x55 x56 x57 x58 x59 x60 x61 x62 x63 x64 x65 x66 x67 x68 x69 x70 x71 x72 x73 x74 x75 x76 x80 x81 x82 x83 x84 x85 x86 x87 x88 x89 x90 x91 x92 x93 x94 x95 x96 x97 x98 x99 x100 x101 x102 x103 x104 x105 x106 x107 x108 x109 x110 x111 x112 x113 x114 x115 x116 x117 x118 x119 x120 x121 x122 x123 x124 x125 x126 x127 x128 x129 x130 x131 x132 x133 x134 x135 x136 x137 x138 x139 x140 x141 x142 x143 x144 x145 x146 x147 x148 x149 x150 x151 x152 x153 x154 x155 x156 x157 x158 x159 x160 x161 x162 x163 x164 x165 x166 x167 x168 x169 x170 x171 x172 x173 x174 x175 x176 x177 x178 x179 x180 x181 x182 x183 x184 x185 x186 x187
set_option maxRecDepth 1000000 in
set_option maxHeartbeats 16000000 in
theorem mr_r24_wp {Q : Exit → Act → World → Prop} {w : World} {rl : List Rel} {d j b o E : Nat} {nm : ByteArray} {ar : Int} {T : Option Addr} {tp : List (List Int)} {t : Nat} {wo : World} (hpx : wo.heap[E]? = some (.cells #[.string nm, .int .i64 ar, .slice T tp.length t] 48 (0, 0))) (hN : ∀ a', Frm 188 [(1, .pointer (some ⟨w.heap.size, 0, none⟩)), (2, .pointer (some ⟨w.heap.size + 1, 0, none⟩)), (77, .slice (some ⟨b, o, none⟩) rl.length d), (78, .int .i64 (rl.length : Nat)), (79, .int .i64 (j : Nat)), (6, .int .i64 (j : Nat)), (7, .pointer (some ⟨E, 0, none⟩)), (8, .int .i64 0), (95, .bool (decide (ar < 0 ∨ 3 < ar)))] a' → Q .normal a' wo) : ∀ ac, Frm 188 [(1, .pointer (some ⟨w.heap.size, 0, none⟩)), (2, .pointer (some ⟨w.heap.size + 1, 0, none⟩)), (77, .slice (some ⟨b, o, none⟩) rl.length d), (78, .int .i64 (rl.length : Nat)), (79, .int .i64 (j : Nat)), (6, .int .i64 (j : Nat)), (7, .pointer (some ⟨E, 0, none⟩)), (8, .int .i64 0)] ac → Code.wp Tryd.prog c_mr_r24 Q ac wo := by
  refine open_mr_r24 (P := fun a => Code.wp Tryd.prog c_mr_r24 Q a wo) ?_
  intro x0 x3 x4 x5 x9 x10 x11 x12 x13 x14 x15 x16 x17 x18 x19 x20 x21 x22 x23 x24 x25 x26 x27 x28 x29 x30 x31 x32 x33 x34 x35 x36 x37 x38 x39 x40 x41 x42 x43 x44 x45 x46 x47 x48 x49 x50 x51 x52 x53 x54 x55 x56 x57 x58 x59 x60 x61 x62 x63 x64 x65 x66 x67 x68 x69 x70 x71 x72 x73 x74 x75 x76 x80 x81 x82 x83 x84 x85 x86 x87 x88 x89 x90 x91 x92 x93 x94 x95 x96 x97 x98 x99 x100 x101 x102 x103 x104 x105 x106 x107 x108 x109 x110 x111 x112 x113 x114 x115 x116 x117 x118 x119 x120 x121 x122 x123 x124 x125 x126 x127 x128 x129 x130 x131 x132 x133 x134 x135 x136 x137 x138 x139 x140 x141 x142 x143 x144 x145 x146 x147 x148 x149 x150 x151 x152 x153 x154 x155 x156 x157 x158 x159 x160 x161 x162 x163 x164 x165 x166 x167 x168 x169 x170 x171 x172 x173 x174 x175 x176 x177 x178 x179 x180 x181 x182 x183 x184 x185 x186 x187
  conv => arg 2; whnf
  have HN := Lib.hid hN
  clear hN
  have px := hpx
  clear hpx
  have px_0 := cv0 px
  have px_1 := cv1 px
  have px_2 := cv2 px
  have px_l := lt_heap px
  have PX := Lib.hid px
  clear px
  by_cases hv : ar < 0 ∨ 3 < ar
  · have hv2 : ar < 0 ∨ (¬ ar < 0 ∧ 3 < ar) := by omega
    rw [show decide (ar < 0 ∨ 3 < ar) = true from decide_eq_true hv] at HN
    clear hv
    rcases hv2 with q5 | ⟨q5, q6⟩
    all_goals
      go_wp2_with fail
      exact HN.out _ (id ⟨rfl, rfl, rfl, rfl, rfl, rfl, rfl, rfl, rfl, rfl, rfl, trivial⟩)
  · have q5 : ¬ ar < 0 := by omega
    have q6 : ¬ 3 < ar := by omega
    rw [show decide (ar < 0 ∨ 3 < ar) = false from decide_eq_false hv] at HN
    clear hv
    go_wp2_with fail
    exact HN.out _ (id ⟨rfl, rfl, rfl, rfl, rfl, rfl, rfl, rfl, rfl, rfl, rfl, trivial⟩)
noncomputable def c_mr_r26 : Code := sub [1, 1, 1, 1, 0, 1, 0, 0, 1, 1, 0, 0, 1, 1, 0, 1, 1, 1, 1, 0] (Tryd.f8.body.getD .skip)
set_option maxRecDepth 1000000 in
theorem open_mr_r26 {P : Act → Prop} {v0 v1 v2 v3 v4 v5 v6 v7 : Value} (h : ∀ x0 x3 x4 x5 x9 x10 x11 x12 x13 x14 x15 x16 x17 x18 x19 x20 x21 x22 x23 x24 x25 x26 x27 x28 x29 x30 x31 x32 x33 x34 x35 x36 x37 x38 x39 x40 x41 x42 x43 x44 x45 x46 x47 x48 x49 x50 x51 x52 x53 x54 x55 x56 x57 x58 x59 x60 x61 x62 x63 x64 x65 x66 x67 x68 x69 x70 x71 x72 x73 x74 x75 x76 x80 x81 x82 x83 x84 x85 x86 x87 x88 x89 x90 x91 x92 x93 x94 x95 x96 x97 x98 x99 x100 x101 x102 x103 x104 x105 x106 x107 x108 x109 x110 x111 x112 x113 x114 x115 x116 x117 x118 x119 x120 x121 x122 x123 x124 x125 x126 x127 x128 x129 x130 x131 x132 x133 x134 x135 x136 x137 x138 x139 x140 x141 x142 x143 x144 x145 x146 x147 x148 x149 x150 x151 x152 x153 x154 x155 x156 x157 x158 x159 x160 x161 x162 x163 x164 x165 x166 x167 x168 x169 x170 x171 x172 x173 x174 x175 x176 x177 x178 x179 x180 x181 x182 x183 x184 x185 x186 x187 : Value, P ⟨(x0 :: v0 :: v1 :: x3 :: x4 :: x5 :: v5 :: v6 :: v7 :: x9 :: x10 :: x11 :: x12 :: x13 :: x14 :: x15 :: x16 :: x17 :: x18 :: x19 :: x20 :: x21 :: x22 :: x23 :: x24 :: x25 :: x26 :: x27 :: x28 :: x29 :: x30 :: x31 :: x32 :: x33 :: x34 :: x35 :: x36 :: x37 :: x38 :: x39 :: x40 :: x41 :: x42 :: x43 :: x44 :: x45 :: x46 :: x47 :: x48 :: x49 :: x50 :: x51 :: x52 :: x53 :: x54 :: x55 :: x56 :: x57 :: x58 :: x59 :: x60 :: x61 :: x62 :: x63 :: x64 :: x65 :: x66 :: x67 :: x68 :: x69 :: x70 :: x71 :: x72 :: x73 :: x74 :: x75 :: x76 :: v2 :: v3 :: v4 :: x80 :: x81 :: x82 :: x83 :: x84 :: x85 :: x86 :: x87 :: x88 :: x89 :: x90 :: x91 :: x92 :: x93 :: x94 :: x95 :: x96 :: x97 :: x98 :: x99 :: x100 :: x101 :: x102 :: x103 :: x104 :: x105 :: x106 :: x107 :: x108 :: x109 :: x110 :: x111 :: x112 :: x113 :: x114 :: x115 :: x116 :: x117 :: x118 :: x119 :: x120 :: x121 :: x122 :: x123 :: x124 :: x125 :: x126 :: x127 :: x128 :: x129 :: x130 :: x131 :: x132 :: x133 :: x134 :: x135 :: x136 :: x137 :: x138 :: x139 :: x140 :: x141 :: x142 :: x143 :: x144 :: x145 :: x146 :: x147 :: x148 :: x149 :: x150 :: x151 :: x152 :: x153 :: x154 :: x155 :: x156 :: x157 :: x158 :: x159 :: x160 :: x161 :: x162 :: x163 :: x164 :: x165 :: x166 :: x167 :: x168 :: x169 :: x170 :: x171 :: x172 :: x173 :: x174 :: x175 :: x176 :: x177 :: x178 :: x179 :: x180 :: x181 :: x182 :: x183 :: x184 :: x185 :: x186 :: x187 :: []).toArray, []⟩) : ∀ a, Frm 188 [(1, v0), (2, v1), (77, v2), (78, v3), (79, v4), (6, v5), (7, v6), (8, v7)] a → P a := by
  rintro a ⟨h1, h2, e0, e1, e2, e3, e4, e5, e6, e7, _⟩
  revert e0 e1 e2 e3 e4 e5 e6 e7
  refine frame_mr (P := fun a => a.tmps.toList[1]? = some v0 → a.tmps.toList[2]? = some v1 → a.tmps.toList[77]? = some v2 → a.tmps.toList[78]? = some v3 → a.tmps.toList[79]? = some v4 → a.tmps.toList[6]? = some v5 → a.tmps.toList[7]? = some v6 → a.tmps.toList[8]? = some v7 → P a) ?_ a h1 h2
  intro x0 x1 x2 x3 x4 x5 x6 x7 x8 x9 x10 x11 x12 x13 x14 x15 x16 x17 x18 x19 x20 x21 x22 x23 x24 x25 x26 x27 x28 x29 x30 x31 x32 x33 x34 x35 x36 x37 x38 x39 x40 x41 x42 x43 x44 x45 x46 x47 x48 x49 x50 x51 x52 x53 x54 x55 x56 x57 x58 x59 x60 x61 x62 x63 x64 x65 x66 x67 x68 x69 x70 x71 x72 x73 x74 x75 x76 x77 x78 x79 x80 x81 x82 x83 x84 x85 x86 x87 x88 x89 x90 x91 x92 x93 x94 x95 x96 x97 x98 x99 x100 x101 x102 x103 x104 x105 x106 x107 x108 x109 x110 x111 x112 x113 x114 x115 x116 x117 x118 x119 x120 x121 x122 x123 x124 x125 x126 x127 x128 x129 x130 x131 x132 x133 x134 x135 x136 x137 x138 x139 x140 x141 x142 x143 x144 x145 x146 x147 x148 x149 x150 x151 x152 x153 x154 x155 x156 x157 x158 x159 x160 x161 x162 x163 x164 x165 x166 x167 x168 x169 x170 x171 x172 x173 x174 x175 x176 x177 x178 x179 x180 x181 x182 x183 x184 x185 x186 x187 e0 e1 e2 e3 e4 e5 e6 e7
  obtain rfl : x1 = v0 := Option.some.inj e0
  obtain rfl : x2 = v1 := Option.some.inj e1
  obtain rfl : x77 = v2 := Option.some.inj e2
  obtain rfl : x78 = v3 := Option.some.inj e3
  obtain rfl : x79 = v4 := Option.some.inj e4
  obtain rfl : x6 = v5 := Option.some.inj e5
  obtain rfl : x7 = v6 := Option.some.inj e6
  obtain rfl : x8 = v7 := Option.some.inj e7
  exact h x0 x3 x4 x5 x9 x10 x11 x12 x13 x14 x15 x16 x17 x18 x19 x20 x21 x22 x23 x24 x25 x26 x27 x28 x29 x30 x31 x32 x33 x34 x35 x36 x37 x38 x39 x40 x41 x42 x43 x44 x45 x46 x47 x48 x49 x50 x51 x52 x53 x54 x55 x56 x57 x58 x59 x60 x61 x62 x63 x64 x65 x66 x67 x68 x69 x70 x71 x72 x73 x74 x75 x76 x80 x81 x82 x83 x84 x85 x86 x87 x88 x89 x90 x91 x92 x93 x94 x95 x96 x97 x98 x99 x100 x101 x102 x103 x104 x105 x106 x107 x108 x109 x110 x111 x112 x113 x114 x115 x116 x117 x118 x119 x120 x121 x122 x123 x124 x125 x126 x127 x128 x129 x130 x131 x132 x133 x134 x135 x136 x137 x138 x139 x140 x141 x142 x143 x144 x145 x146 x147 x148 x149 x150 x151 x152 x153 x154 x155 x156 x157 x158 x159 x160 x161 x162 x163 x164 x165 x166 x167 x168 x169 x170 x171 x172 x173 x174 x175 x176 x177 x178 x179 x180 x181 x182 x183 x184 x185 x186 x187
set_option maxRecDepth 1000000 in
set_option maxHeartbeats 16000000 in
theorem mr_r26_wp {Q : Exit → Act → World → Prop} {w : World} {rl : List Rel} {d j b o E : Nat} {wo : World} (hN : ∀ a', Frm 188 [(1, .pointer (some ⟨w.heap.size, 0, none⟩)), (2, .pointer (some ⟨w.heap.size + 1, 0, none⟩)), (77, .slice (some ⟨b, o, none⟩) rl.length d), (78, .int .i64 (rl.length : Nat)), (79, .int .i64 (j : Nat)), (6, .int .i64 (j : Nat)), (7, .pointer (some ⟨E, 0, none⟩)), (8, .int .i64 0), (97, .bool (decide (0 < j)))] a' → Q .normal a' wo) : ∀ ac, Frm 188 [(1, .pointer (some ⟨w.heap.size, 0, none⟩)), (2, .pointer (some ⟨w.heap.size + 1, 0, none⟩)), (77, .slice (some ⟨b, o, none⟩) rl.length d), (78, .int .i64 (rl.length : Nat)), (79, .int .i64 (j : Nat)), (6, .int .i64 (j : Nat)), (7, .pointer (some ⟨E, 0, none⟩)), (8, .int .i64 0)] ac → Code.wp Tryd.prog c_mr_r26 Q ac wo := by
  refine open_mr_r26 (P := fun a => Code.wp Tryd.prog c_mr_r26 Q a wo) ?_
  intro x0 x3 x4 x5 x9 x10 x11 x12 x13 x14 x15 x16 x17 x18 x19 x20 x21 x22 x23 x24 x25 x26 x27 x28 x29 x30 x31 x32 x33 x34 x35 x36 x37 x38 x39 x40 x41 x42 x43 x44 x45 x46 x47 x48 x49 x50 x51 x52 x53 x54 x55 x56 x57 x58 x59 x60 x61 x62 x63 x64 x65 x66 x67 x68 x69 x70 x71 x72 x73 x74 x75 x76 x80 x81 x82 x83 x84 x85 x86 x87 x88 x89 x90 x91 x92 x93 x94 x95 x96 x97 x98 x99 x100 x101 x102 x103 x104 x105 x106 x107 x108 x109 x110 x111 x112 x113 x114 x115 x116 x117 x118 x119 x120 x121 x122 x123 x124 x125 x126 x127 x128 x129 x130 x131 x132 x133 x134 x135 x136 x137 x138 x139 x140 x141 x142 x143 x144 x145 x146 x147 x148 x149 x150 x151 x152 x153 x154 x155 x156 x157 x158 x159 x160 x161 x162 x163 x164 x165 x166 x167 x168 x169 x170 x171 x172 x173 x174 x175 x176 x177 x178 x179 x180 x181 x182 x183 x184 x185 x186 x187
  conv => arg 2; whnf
  have HN := Lib.hid hN
  clear hN
  by_cases hv : 0 < j
  · have q1 : (0 : Int) < (j : Int) := by omega
    rw [show decide (0 < j) = true from decide_eq_true hv] at HN
    go_wp2_with fail
    exact HN.out _ (id ⟨rfl, rfl, rfl, rfl, rfl, rfl, rfl, rfl, rfl, rfl, rfl, trivial⟩)
  · have q1 : ¬ (0 : Int) < (j : Int) := by omega
    rw [show decide (0 < j) = false from decide_eq_false hv] at HN
    go_wp2_with fail
    exact HN.out _ (id ⟨rfl, rfl, rfl, rfl, rfl, rfl, rfl, rfl, rfl, rfl, rfl, trivial⟩)
noncomputable def c_mr_r27 : Code := sub [1, 1, 1, 1, 0, 1, 0, 0, 1, 1, 0, 0, 1, 1, 0, 1, 1, 1, 1, 1, 0, 0] (Tryd.f8.body.getD .skip)
set_option maxRecDepth 1000000 in
theorem open_mr_r27 {P : Act → Prop} {v0 v1 v2 v3 v4 v5 v6 v7 : Value} (h : ∀ x0 x3 x4 x5 x9 x10 x11 x12 x13 x14 x15 x16 x17 x18 x19 x20 x21 x22 x23 x24 x25 x26 x27 x28 x29 x30 x31 x32 x33 x34 x35 x36 x37 x38 x39 x40 x41 x42 x43 x44 x45 x46 x47 x48 x49 x50 x51 x52 x53 x54 x55 x56 x57 x58 x59 x60 x61 x62 x63 x64 x65 x66 x67 x68 x69 x70 x71 x72 x73 x74 x75 x76 x80 x81 x82 x83 x84 x85 x86 x87 x88 x89 x90 x91 x92 x93 x94 x95 x96 x97 x98 x99 x100 x101 x102 x103 x104 x105 x106 x107 x108 x109 x110 x111 x112 x113 x114 x115 x116 x117 x118 x119 x120 x121 x122 x123 x124 x125 x126 x127 x128 x129 x130 x131 x132 x133 x134 x135 x136 x137 x138 x139 x140 x141 x142 x143 x144 x145 x146 x147 x148 x149 x150 x151 x152 x153 x154 x155 x156 x157 x158 x159 x160 x161 x162 x163 x164 x165 x166 x167 x168 x169 x170 x171 x172 x173 x174 x175 x176 x177 x178 x179 x180 x181 x182 x183 x184 x185 x186 x187 : Value, P ⟨(x0 :: v0 :: v1 :: x3 :: x4 :: x5 :: v5 :: v6 :: v7 :: x9 :: x10 :: x11 :: x12 :: x13 :: x14 :: x15 :: x16 :: x17 :: x18 :: x19 :: x20 :: x21 :: x22 :: x23 :: x24 :: x25 :: x26 :: x27 :: x28 :: x29 :: x30 :: x31 :: x32 :: x33 :: x34 :: x35 :: x36 :: x37 :: x38 :: x39 :: x40 :: x41 :: x42 :: x43 :: x44 :: x45 :: x46 :: x47 :: x48 :: x49 :: x50 :: x51 :: x52 :: x53 :: x54 :: x55 :: x56 :: x57 :: x58 :: x59 :: x60 :: x61 :: x62 :: x63 :: x64 :: x65 :: x66 :: x67 :: x68 :: x69 :: x70 :: x71 :: x72 :: x73 :: x74 :: x75 :: x76 :: v2 :: v3 :: v4 :: x80 :: x81 :: x82 :: x83 :: x84 :: x85 :: x86 :: x87 :: x88 :: x89 :: x90 :: x91 :: x92 :: x93 :: x94 :: x95 :: x96 :: x97 :: x98 :: x99 :: x100 :: x101 :: x102 :: x103 :: x104 :: x105 :: x106 :: x107 :: x108 :: x109 :: x110 :: x111 :: x112 :: x113 :: x114 :: x115 :: x116 :: x117 :: x118 :: x119 :: x120 :: x121 :: x122 :: x123 :: x124 :: x125 :: x126 :: x127 :: x128 :: x129 :: x130 :: x131 :: x132 :: x133 :: x134 :: x135 :: x136 :: x137 :: x138 :: x139 :: x140 :: x141 :: x142 :: x143 :: x144 :: x145 :: x146 :: x147 :: x148 :: x149 :: x150 :: x151 :: x152 :: x153 :: x154 :: x155 :: x156 :: x157 :: x158 :: x159 :: x160 :: x161 :: x162 :: x163 :: x164 :: x165 :: x166 :: x167 :: x168 :: x169 :: x170 :: x171 :: x172 :: x173 :: x174 :: x175 :: x176 :: x177 :: x178 :: x179 :: x180 :: x181 :: x182 :: x183 :: x184 :: x185 :: x186 :: x187 :: []).toArray, []⟩) : ∀ a, Frm 188 [(1, v0), (2, v1), (77, v2), (78, v3), (79, v4), (6, v5), (7, v6), (8, v7)] a → P a := by
  rintro a ⟨h1, h2, e0, e1, e2, e3, e4, e5, e6, e7, _⟩
  revert e0 e1 e2 e3 e4 e5 e6 e7
  refine frame_mr (P := fun a => a.tmps.toList[1]? = some v0 → a.tmps.toList[2]? = some v1 → a.tmps.toList[77]? = some v2 → a.tmps.toList[78]? = some v3 → a.tmps.toList[79]? = some v4 → a.tmps.toList[6]? = some v5 → a.tmps.toList[7]? = some v6 → a.tmps.toList[8]? = some v7 → P a) ?_ a h1 h2
  intro x0 x1 x2 x3 x4 x5 x6 x7 x8 x9 x10 x11 x12 x13 x14 x15 x16 x17 x18 x19 x20 x21 x22 x23 x24 x25 x26 x27 x28 x29 x30 x31 x32 x33 x34 x35 x36 x37 x38 x39 x40 x41 x42 x43 x44 x45 x46 x47 x48 x49 x50 x51 x52 x53 x54 x55 x56 x57 x58 x59 x60 x61 x62 x63 x64 x65 x66 x67 x68 x69 x70 x71 x72 x73 x74 x75 x76 x77 x78 x79 x80 x81 x82 x83 x84 x85 x86 x87 x88 x89 x90 x91 x92 x93 x94 x95 x96 x97 x98 x99 x100 x101 x102 x103 x104 x105 x106 x107 x108 x109 x110 x111 x112 x113 x114 x115 x116 x117 x118 x119 x120 x121 x122 x123 x124 x125 x126 x127 x128 x129 x130 x131 x132 x133 x134 x135 x136 x137 x138 x139 x140 x141 x142 x143 x144 x145 x146 x147 x148 x149 x150 x151 x152 x153 x154 x155 x156 x157 x158 x159 x160 x161 x162 x163 x164 x165 x166 x167 x168 x169 x170 x171 x172 x173 x174 x175 x176 x177 x178 x179 x180 x181 x182 x183 x184 x185 x186 x187 e0 e1 e2 e3 e4 e5 e6 e7
  obtain rfl : x1 = v0 := Option.some.inj e0
  obtain rfl : x2 = v1 := Option.some.inj e1
  obtain rfl : x77 = v2 := Option.some.inj e2
  obtain rfl : x78 = v3 := Option.some.inj e3
  obtain rfl : x79 = v4 := Option.some.inj e4
  obtain rfl : x6 = v5 := Option.some.inj e5
  obtain rfl : x7 = v6 := Option.some.inj e6
  obtain rfl : x8 = v7 := Option.some.inj e7
  exact h x0 x3 x4 x5 x9 x10 x11 x12 x13 x14 x15 x16 x17 x18 x19 x20 x21 x22 x23 x24 x25 x26 x27 x28 x29 x30 x31 x32 x33 x34 x35 x36 x37 x38 x39 x40 x41 x42 x43 x44 x45 x46 x47 x48 x49 x50 x51 x52 x53 x54 x55 x56 x57 x58 x59 x60 x61 x62 x63 x64 x65 x66 x67 x68 x69 x70 x71 x72 x73 x74 x75 x76 x80 x81 x82 x83 x84 x85 x86 x87 x88 x89 x90 x91 x92 x93 x94 x95 x96 x97 x98 x99 x100 x101 x102 x103 x104 x105 x106 x107 x108 x109 x110 x111 x112 x113 x114 x115 x116 x117 x118 x119 x120 x121 x122 x123 x124 x125 x126 x127 x128 x129 x130 x131 x132 x133 x134 x135 x136 x137 x138 x139 x140 x141 x142 x143 x144 x145 x146 x147 x148 x149 x150 x151 x152 x153 x154 x155 x156 x157 x158 x159 x160 x161 x162 x163 x164 x165 x166 x167 x168 x169 x170 x171 x172 x173 x174 x175 x176 x177 x178 x179 x180 x181 x182 x183 x184 x185 x186 x187
set_option maxRecDepth 1000000 in
set_option maxHeartbeats 16000000 in
theorem mr_r27_wp {Q : Exit → Act → World → Prop} {w wo : World} {sz : Int} {cl : List Con} {rl : List Rel} {A : Option Addr} {c d i b o E : Nat} {pn : ByteArray} {pa : Int} {T' : Option Addr} {pl t' : Nat} (hi : i + 1 < rl.length) (hb : b < wo.heap.size) (hr : rl.length ≤ 300) (hp0 : wo.heap[w.heap.size]? = some (.cells #[.int .i64 sz, .slice A cl.length c, .slice (some ⟨b, o, none⟩) rl.length d] 25 (0, 0))) (e0 : wo.cell? ⟨b, o + i * 3, none⟩ = some (.string pn)) (e1 : wo.cell? ⟨b, o + i * 3 + 1, none⟩ = some (.int .i64 pa)) (e2 : wo.cell? ⟨b, o + i * 3 + 2, none⟩ = some (.slice T' pl t')) (hN : ∀ a', Frm 188 [(1, .pointer (some ⟨w.heap.size, 0, none⟩)), (2, .pointer (some ⟨w.heap.size + 1, 0, none⟩)), (77, .slice (some ⟨b, o, none⟩) rl.length d), (78, .int .i64 (rl.length : Nat)), (79, .int .i64 ((i + 1) : Nat)), (6, .int .i64 (i + 1 : Nat)), (7, .pointer (some ⟨E, 0, none⟩)), (8, .int .i64 0), (9, .pointer (some ⟨wo.heap.size, 0, none⟩))] a' → Q .normal a' (wo.alloc (.cells #[.string pn, .int .i64 pa, .slice T' pl t'] 48 (0, 0)))) : ∀ ac, Frm 188 [(1, .pointer (some ⟨w.heap.size, 0, none⟩)), (2, .pointer (some ⟨w.heap.size + 1, 0, none⟩)), (77, .slice (some ⟨b, o, none⟩) rl.length d), (78, .int .i64 (rl.length : Nat)), (79, .int .i64 ((i + 1) : Nat)), (6, .int .i64 (i + 1 : Nat)), (7, .pointer (some ⟨E, 0, none⟩)), (8, .int .i64 0)] ac → Code.wp Tryd.prog c_mr_r27 Q ac wo := by
  refine open_mr_r27 (P := fun a => Code.wp Tryd.prog c_mr_r27 Q a wo) ?_
  intro x0 x3 x4 x5 x9 x10 x11 x12 x13 x14 x15 x16 x17 x18 x19 x20 x21 x22 x23 x24 x25 x26 x27 x28 x29 x30 x31 x32 x33 x34 x35 x36 x37 x38 x39 x40 x41 x42 x43 x44 x45 x46 x47 x48 x49 x50 x51 x52 x53 x54 x55 x56 x57 x58 x59 x60 x61 x62 x63 x64 x65 x66 x67 x68 x69 x70 x71 x72 x73 x74 x75 x76 x80 x81 x82 x83 x84 x85 x86 x87 x88 x89 x90 x91 x92 x93 x94 x95 x96 x97 x98 x99 x100 x101 x102 x103 x104 x105 x106 x107 x108 x109 x110 x111 x112 x113 x114 x115 x116 x117 x118 x119 x120 x121 x122 x123 x124 x125 x126 x127 x128 x129 x130 x131 x132 x133 x134 x135 x136 x137 x138 x139 x140 x141 x142 x143 x144 x145 x146 x147 x148 x149 x150 x151 x152 x153 x154 x155 x156 x157 x158 x159 x160 x161 x162 x163 x164 x165 x166 x167 x168 x169 x170 x171 x172 x173 x174 x175 x176 x177 x178 x179 x180 x181 x182 x183 x184 x185 x186 x187
  conv => arg 2; whnf
  have HN := Lib.hid hN
  clear hN
  have p0 := hp0
  clear hp0
  have p0_0 := cv0 p0
  have p0_1 := cv1 p0
  have p0_2 := cv2 p0
  have p0_l := lt_heap p0
  have P0 := Lib.hid p0
  clear p0
  have q0 : (0 : Int) ≤ (i : Int) := by omega
  have q1 : (i : Int) < (rl.length : Int) := by omega
  have hj1 : ((i + 1 : Nat) : Int) - 1 = (i : Int) := by omega
  have hj2 : (i : Int) + 1 - 1 = (i : Int) := by omega
  have hbl2 : b < wo.heap.size + 1 := by omega
  go_wp2_with fail
  exact HN.out _ (id ⟨rfl, rfl, rfl, rfl, rfl, rfl, rfl, rfl, rfl, rfl, rfl, trivial⟩)
noncomputable def c_mr_r28 : Code := sub [1, 1, 1, 1, 0, 1, 0, 0, 1, 1, 0, 0, 1, 1, 0, 1, 1, 1, 1, 1, 0, 1, 0] (Tryd.f8.body.getD .skip)
set_option maxRecDepth 1000000 in
theorem open_mr_r28 {P : Act → Prop} {v0 v1 v2 v3 v4 v5 v6 v7 v8 : Value} (h : ∀ x0 x3 x4 x5 x10 x11 x12 x13 x14 x15 x16 x17 x18 x19 x20 x21 x22 x23 x24 x25 x26 x27 x28 x29 x30 x31 x32 x33 x34 x35 x36 x37 x38 x39 x40 x41 x42 x43 x44 x45 x46 x47 x48 x49 x50 x51 x52 x53 x54 x55 x56 x57 x58 x59 x60 x61 x62 x63 x64 x65 x66 x67 x68 x69 x70 x71 x72 x73 x74 x75 x76 x80 x81 x82 x83 x84 x85 x86 x87 x88 x89 x90 x91 x92 x93 x94 x95 x96 x97 x98 x99 x100 x101 x102 x103 x104 x105 x106 x107 x108 x109 x110 x111 x112 x113 x114 x115 x116 x117 x118 x119 x120 x121 x122 x123 x124 x125 x126 x127 x128 x129 x130 x131 x132 x133 x134 x135 x136 x137 x138 x139 x140 x141 x142 x143 x144 x145 x146 x147 x148 x149 x150 x151 x152 x153 x154 x155 x156 x157 x158 x159 x160 x161 x162 x163 x164 x165 x166 x167 x168 x169 x170 x171 x172 x173 x174 x175 x176 x177 x178 x179 x180 x181 x182 x183 x184 x185 x186 x187 : Value, P ⟨(x0 :: v0 :: v1 :: x3 :: x4 :: x5 :: v5 :: v6 :: v7 :: v8 :: x10 :: x11 :: x12 :: x13 :: x14 :: x15 :: x16 :: x17 :: x18 :: x19 :: x20 :: x21 :: x22 :: x23 :: x24 :: x25 :: x26 :: x27 :: x28 :: x29 :: x30 :: x31 :: x32 :: x33 :: x34 :: x35 :: x36 :: x37 :: x38 :: x39 :: x40 :: x41 :: x42 :: x43 :: x44 :: x45 :: x46 :: x47 :: x48 :: x49 :: x50 :: x51 :: x52 :: x53 :: x54 :: x55 :: x56 :: x57 :: x58 :: x59 :: x60 :: x61 :: x62 :: x63 :: x64 :: x65 :: x66 :: x67 :: x68 :: x69 :: x70 :: x71 :: x72 :: x73 :: x74 :: x75 :: x76 :: v2 :: v3 :: v4 :: x80 :: x81 :: x82 :: x83 :: x84 :: x85 :: x86 :: x87 :: x88 :: x89 :: x90 :: x91 :: x92 :: x93 :: x94 :: x95 :: x96 :: x97 :: x98 :: x99 :: x100 :: x101 :: x102 :: x103 :: x104 :: x105 :: x106 :: x107 :: x108 :: x109 :: x110 :: x111 :: x112 :: x113 :: x114 :: x115 :: x116 :: x117 :: x118 :: x119 :: x120 :: x121 :: x122 :: x123 :: x124 :: x125 :: x126 :: x127 :: x128 :: x129 :: x130 :: x131 :: x132 :: x133 :: x134 :: x135 :: x136 :: x137 :: x138 :: x139 :: x140 :: x141 :: x142 :: x143 :: x144 :: x145 :: x146 :: x147 :: x148 :: x149 :: x150 :: x151 :: x152 :: x153 :: x154 :: x155 :: x156 :: x157 :: x158 :: x159 :: x160 :: x161 :: x162 :: x163 :: x164 :: x165 :: x166 :: x167 :: x168 :: x169 :: x170 :: x171 :: x172 :: x173 :: x174 :: x175 :: x176 :: x177 :: x178 :: x179 :: x180 :: x181 :: x182 :: x183 :: x184 :: x185 :: x186 :: x187 :: []).toArray, []⟩) : ∀ a, Frm 188 [(1, v0), (2, v1), (77, v2), (78, v3), (79, v4), (6, v5), (7, v6), (8, v7), (9, v8)] a → P a := by
  rintro a ⟨h1, h2, e0, e1, e2, e3, e4, e5, e6, e7, e8, _⟩
  revert e0 e1 e2 e3 e4 e5 e6 e7 e8
  refine frame_mr (P := fun a => a.tmps.toList[1]? = some v0 → a.tmps.toList[2]? = some v1 → a.tmps.toList[77]? = some v2 → a.tmps.toList[78]? = some v3 → a.tmps.toList[79]? = some v4 → a.tmps.toList[6]? = some v5 → a.tmps.toList[7]? = some v6 → a.tmps.toList[8]? = some v7 → a.tmps.toList[9]? = some v8 → P a) ?_ a h1 h2
  intro x0 x1 x2 x3 x4 x5 x6 x7 x8 x9 x10 x11 x12 x13 x14 x15 x16 x17 x18 x19 x20 x21 x22 x23 x24 x25 x26 x27 x28 x29 x30 x31 x32 x33 x34 x35 x36 x37 x38 x39 x40 x41 x42 x43 x44 x45 x46 x47 x48 x49 x50 x51 x52 x53 x54 x55 x56 x57 x58 x59 x60 x61 x62 x63 x64 x65 x66 x67 x68 x69 x70 x71 x72 x73 x74 x75 x76 x77 x78 x79 x80 x81 x82 x83 x84 x85 x86 x87 x88 x89 x90 x91 x92 x93 x94 x95 x96 x97 x98 x99 x100 x101 x102 x103 x104 x105 x106 x107 x108 x109 x110 x111 x112 x113 x114 x115 x116 x117 x118 x119 x120 x121 x122 x123 x124 x125 x126 x127 x128 x129 x130 x131 x132 x133 x134 x135 x136 x137 x138 x139 x140 x141 x142 x143 x144 x145 x146 x147 x148 x149 x150 x151 x152 x153 x154 x155 x156 x157 x158 x159 x160 x161 x162 x163 x164 x165 x166 x167 x168 x169 x170 x171 x172 x173 x174 x175 x176 x177 x178 x179 x180 x181 x182 x183 x184 x185 x186 x187 e0 e1 e2 e3 e4 e5 e6 e7 e8
  obtain rfl : x1 = v0 := Option.some.inj e0
  obtain rfl : x2 = v1 := Option.some.inj e1
  obtain rfl : x77 = v2 := Option.some.inj e2
  obtain rfl : x78 = v3 := Option.some.inj e3
  obtain rfl : x79 = v4 := Option.some.inj e4
  obtain rfl : x6 = v5 := Option.some.inj e5
  obtain rfl : x7 = v6 := Option.some.inj e6
  obtain rfl : x8 = v7 := Option.some.inj e7
  obtain rfl : x9 = v8 := Option.some.inj e8
  exact h x0 x3 x4 x5 x10 x11 x12 x13 x14 x15 x16 x17 x18 x19 x20 x21 x22 x23 x24 x25 x26 x27 x28 x29 x30 x31 x32 x33 x34 x35 x36 x37 x38 x39 x40 x41 x42 x43 x44 x45 x46 x47 x48 x49 x50 x51 x52 x53 x54 x55 x56 x57 x58 x59 x60 x61 x62 x63 x64 x65 x66 x67 x68 x69 x70 x71 x72 x73 x74 x75 x76 x80 x81 x82 x83 x84 x85 x86 x87 x88 x89 x90 x91 x92 x93 x94 x95 x96 x97 x98 x99 x100 x101 x102 x103 x104 x105 x106 x107 x108 x109 x110 x111 x112 x113 x114 x115 x116 x117 x118 x119 x120 x121 x122 x123 x124 x125 x126 x127 x128 x129 x130 x131 x132 x133 x134 x135 x136 x137 x138 x139 x140 x141 x142 x143 x144 x145 x146 x147 x148 x149 x150 x151 x152 x153 x154 x155 x156 x157 x158 x159 x160 x161 x162 x163 x164 x165 x166 x167 x168 x169 x170 x171 x172 x173 x174 x175 x176 x177 x178 x179 x180 x181 x182 x183 x184 x185 x186 x187
set_option maxRecDepth 1000000 in
set_option maxHeartbeats 16000000 in
theorem mr_r28_wp {Q : Exit → Act → World → Prop} {w : World} {rl : List Rel} {d j b o E : Nat} {nm : ByteArray} {ar : Int} {T : Option Addr} {tp : List (List Int)} {t : Nat} {G : Nat} {pn : ByteArray} {pa : Int} {pt : List (List Int)} {T' : Option Addr} {t' : Nat} {wo : World} (hpx : wo.heap[E]? = some (.cells #[.string nm, .int .i64 ar, .slice T tp.length t] 48 (0, 0))) (hpg : wo.heap[G]? = some (.cells #[.string pn, .int .i64 pa, .slice T' pt.length t'] 48 (0, 0))) (hN : ∀ a', Frm 188 [(1, .pointer (some ⟨w.heap.size, 0, none⟩)), (2, .pointer (some ⟨w.heap.size + 1, 0, none⟩)), (77, .slice (some ⟨b, o, none⟩) rl.length d), (78, .int .i64 (rl.length : Nat)), (79, .int .i64 (j : Nat)), (6, .int .i64 (j : Nat)), (7, .pointer (some ⟨E, 0, none⟩)), (8, .int .i64 0), (122, .bool (decide (0 ≤ cmpR ⟨pn, pa, pt⟩ ⟨nm, ar, tp⟩)))] a' → Q .normal a' wo) : ∀ ac, Frm 188 [(1, .pointer (some ⟨w.heap.size, 0, none⟩)), (2, .pointer (some ⟨w.heap.size + 1, 0, none⟩)), (77, .slice (some ⟨b, o, none⟩) rl.length d), (78, .int .i64 (rl.length : Nat)), (79, .int .i64 (j : Nat)), (6, .int .i64 (j : Nat)), (7, .pointer (some ⟨E, 0, none⟩)), (8, .int .i64 0), (9, .pointer (some ⟨G, 0, none⟩))] ac → Code.wp Tryd.prog c_mr_r28 Q ac wo := by
  refine open_mr_r28 (P := fun a => Code.wp Tryd.prog c_mr_r28 Q a wo) ?_
  intro x0 x3 x4 x5 x10 x11 x12 x13 x14 x15 x16 x17 x18 x19 x20 x21 x22 x23 x24 x25 x26 x27 x28 x29 x30 x31 x32 x33 x34 x35 x36 x37 x38 x39 x40 x41 x42 x43 x44 x45 x46 x47 x48 x49 x50 x51 x52 x53 x54 x55 x56 x57 x58 x59 x60 x61 x62 x63 x64 x65 x66 x67 x68 x69 x70 x71 x72 x73 x74 x75 x76 x80 x81 x82 x83 x84 x85 x86 x87 x88 x89 x90 x91 x92 x93 x94 x95 x96 x97 x98 x99 x100 x101 x102 x103 x104 x105 x106 x107 x108 x109 x110 x111 x112 x113 x114 x115 x116 x117 x118 x119 x120 x121 x122 x123 x124 x125 x126 x127 x128 x129 x130 x131 x132 x133 x134 x135 x136 x137 x138 x139 x140 x141 x142 x143 x144 x145 x146 x147 x148 x149 x150 x151 x152 x153 x154 x155 x156 x157 x158 x159 x160 x161 x162 x163 x164 x165 x166 x167 x168 x169 x170 x171 x172 x173 x174 x175 x176 x177 x178 x179 x180 x181 x182 x183 x184 x185 x186 x187
  conv => arg 2; whnf
  have HN := Lib.hid hN
  clear hN
  have px := hpx
  have pg := hpg
  clear hpx hpg
  have px_0 := cv0 px
  have px_1 := cv1 px
  have px_2 := cv2 px
  have px_l := lt_heap px
  have PX := Lib.hid px
  clear px
  have pg_0 := cv0 pg
  have pg_1 := cv1 pg
  have pg_2 := cv2 pg
  have pg_l := lt_heap pg
  have PG := Lib.hid pg
  clear pg
  have hcr := cmpR_ref ⟨pn, pa, pt⟩ ⟨nm, ar, tp⟩
  simp only at hcr
  cases l1 : Op.bytesLess pn.toList nm.toList with
  | true =>
    have l2 := less_asym _ _ l1
    have l3 : (pn.toList == nm.toList) = false := by rw [beq_eq_false_iff_ne]; intro e; rw [e, less_irr] at l1; cases l1
    rw [show decide (0 ≤ cmpR ⟨pn, pa, pt⟩ ⟨nm, ar, tp⟩) = false from decide_eq_false (fun h => by rcases hcr.1 h with h | ⟨h, _⟩; rw [l2] at h; cases h; rw [h, less_irr] at l1; cases l1)] at HN
    clear hcr
    go_wp2_with fail
    exact HN.out _ (id ⟨rfl, rfl, rfl, rfl, rfl, rfl, rfl, rfl, rfl, rfl, rfl, trivial⟩)
  | false =>
    cases l2 : Op.bytesLess nm.toList pn.toList with
    | true =>
      have l3 : (pn.toList == nm.toList) = false := by rw [beq_eq_false_iff_ne]; intro e; rw [e, less_irr] at l2; cases l2
      rw [show decide (0 ≤ cmpR ⟨pn, pa, pt⟩ ⟨nm, ar, tp⟩) = true from decide_eq_true (hcr.2 (Or.inl l2))] at HN
      clear hcr
      go_wp2_with fail
      exact HN.out _ (id ⟨rfl, rfl, rfl, rfl, rfl, rfl, rfl, rfl, rfl, rfl, rfl, trivial⟩)
    | false =>
      have l4 := less_tri _ _ l1 l2
      have l3 : (pn.toList == nm.toList) = true := by rw [l4]; exact beq_self_eq_true _
      by_cases l5 : ar ≤ pa
      · rw [show decide (0 ≤ cmpR ⟨pn, pa, pt⟩ ⟨nm, ar, tp⟩) = true from decide_eq_true (hcr.2 (Or.inr ⟨l4, l5⟩))] at HN
        clear hcr l4
        go_wp2_with fail
        exact HN.out _ (id ⟨rfl, rfl, rfl, rfl, rfl, rfl, rfl, rfl, rfl, rfl, rfl, trivial⟩)
      · rw [show decide (0 ≤ cmpR ⟨pn, pa, pt⟩ ⟨nm, ar, tp⟩) = false from decide_eq_false (fun h => by rcases hcr.1 h with h | ⟨_, h⟩; rw [l2] at h; cases h; exact l5 h)] at HN
        clear hcr l4
        go_wp2_with fail
        exact HN.out _ (id ⟨rfl, rfl, rfl, rfl, rfl, rfl, rfl, rfl, rfl, rfl, rfl, trivial⟩)
noncomputable def c_mr_r29 : Code := sub [1, 1, 1, 1, 0, 1, 0, 0, 1, 1, 0, 0, 1, 1, 0, 1, 1, 1, 1, 1, 0, 1, 1, 0] (Tryd.f8.body.getD .skip)
set_option maxRecDepth 1000000 in
theorem open_mr_r29 {P : Act → Prop} {v0 v1 v2 v3 v4 v5 v6 v7 : Value} (h : ∀ x0 x3 x4 x5 x9 x10 x11 x12 x13 x14 x15 x16 x17 x18 x19 x20 x21 x22 x23 x24 x25 x26 x27 x28 x29 x30 x31 x32 x33 x34 x35 x36 x37 x38 x39 x40 x41 x42 x43 x44 x45 x46 x47 x48 x49 x50 x51 x52 x53 x54 x55 x56 x57 x58 x59 x60 x61 x62 x63 x64 x65 x66 x67 x68 x69 x70 x71 x72 x73 x74 x75 x76 x80 x81 x82 x83 x84 x85 x86 x87 x88 x89 x90 x91 x92 x93 x94 x95 x96 x97 x98 x99 x100 x101 x102 x103 x104 x105 x106 x107 x108 x109 x110 x111 x112 x113 x114 x115 x116 x117 x118 x119 x120 x121 x122 x123 x124 x125 x126 x127 x128 x129 x130 x131 x132 x133 x134 x135 x136 x137 x138 x139 x140 x141 x142 x143 x144 x145 x146 x147 x148 x149 x150 x151 x152 x153 x154 x155 x156 x157 x158 x159 x160 x161 x162 x163 x164 x165 x166 x167 x168 x169 x170 x171 x172 x173 x174 x175 x176 x177 x178 x179 x180 x181 x182 x183 x184 x185 x186 x187 : Value, P ⟨(x0 :: v0 :: v1 :: x3 :: x4 :: x5 :: v5 :: v6 :: v7 :: x9 :: x10 :: x11 :: x12 :: x13 :: x14 :: x15 :: x16 :: x17 :: x18 :: x19 :: x20 :: x21 :: x22 :: x23 :: x24 :: x25 :: x26 :: x27 :: x28 :: x29 :: x30 :: x31 :: x32 :: x33 :: x34 :: x35 :: x36 :: x37 :: x38 :: x39 :: x40 :: x41 :: x42 :: x43 :: x44 :: x45 :: x46 :: x47 :: x48 :: x49 :: x50 :: x51 :: x52 :: x53 :: x54 :: x55 :: x56 :: x57 :: x58 :: x59 :: x60 :: x61 :: x62 :: x63 :: x64 :: x65 :: x66 :: x67 :: x68 :: x69 :: x70 :: x71 :: x72 :: x73 :: x74 :: x75 :: x76 :: v2 :: v3 :: v4 :: x80 :: x81 :: x82 :: x83 :: x84 :: x85 :: x86 :: x87 :: x88 :: x89 :: x90 :: x91 :: x92 :: x93 :: x94 :: x95 :: x96 :: x97 :: x98 :: x99 :: x100 :: x101 :: x102 :: x103 :: x104 :: x105 :: x106 :: x107 :: x108 :: x109 :: x110 :: x111 :: x112 :: x113 :: x114 :: x115 :: x116 :: x117 :: x118 :: x119 :: x120 :: x121 :: x122 :: x123 :: x124 :: x125 :: x126 :: x127 :: x128 :: x129 :: x130 :: x131 :: x132 :: x133 :: x134 :: x135 :: x136 :: x137 :: x138 :: x139 :: x140 :: x141 :: x142 :: x143 :: x144 :: x145 :: x146 :: x147 :: x148 :: x149 :: x150 :: x151 :: x152 :: x153 :: x154 :: x155 :: x156 :: x157 :: x158 :: x159 :: x160 :: x161 :: x162 :: x163 :: x164 :: x165 :: x166 :: x167 :: x168 :: x169 :: x170 :: x171 :: x172 :: x173 :: x174 :: x175 :: x176 :: x177 :: x178 :: x179 :: x180 :: x181 :: x182 :: x183 :: x184 :: x185 :: x186 :: x187 :: []).toArray, []⟩) : ∀ a, Frm 188 [(1, v0), (2, v1), (77, v2), (78, v3), (79, v4), (6, v5), (7, v6), (8, v7)] a → P a := by
  rintro a ⟨h1, h2, e0, e1, e2, e3, e4, e5, e6, e7, _⟩
  revert e0 e1 e2 e3 e4 e5 e6 e7
  refine frame_mr (P := fun a => a.tmps.toList[1]? = some v0 → a.tmps.toList[2]? = some v1 → a.tmps.toList[77]? = some v2 → a.tmps.toList[78]? = some v3 → a.tmps.toList[79]? = some v4 → a.tmps.toList[6]? = some v5 → a.tmps.toList[7]? = some v6 → a.tmps.toList[8]? = some v7 → P a) ?_ a h1 h2
  intro x0 x1 x2 x3 x4 x5 x6 x7 x8 x9 x10 x11 x12 x13 x14 x15 x16 x17 x18 x19 x20 x21 x22 x23 x24 x25 x26 x27 x28 x29 x30 x31 x32 x33 x34 x35 x36 x37 x38 x39 x40 x41 x42 x43 x44 x45 x46 x47 x48 x49 x50 x51 x52 x53 x54 x55 x56 x57 x58 x59 x60 x61 x62 x63 x64 x65 x66 x67 x68 x69 x70 x71 x72 x73 x74 x75 x76 x77 x78 x79 x80 x81 x82 x83 x84 x85 x86 x87 x88 x89 x90 x91 x92 x93 x94 x95 x96 x97 x98 x99 x100 x101 x102 x103 x104 x105 x106 x107 x108 x109 x110 x111 x112 x113 x114 x115 x116 x117 x118 x119 x120 x121 x122 x123 x124 x125 x126 x127 x128 x129 x130 x131 x132 x133 x134 x135 x136 x137 x138 x139 x140 x141 x142 x143 x144 x145 x146 x147 x148 x149 x150 x151 x152 x153 x154 x155 x156 x157 x158 x159 x160 x161 x162 x163 x164 x165 x166 x167 x168 x169 x170 x171 x172 x173 x174 x175 x176 x177 x178 x179 x180 x181 x182 x183 x184 x185 x186 x187 e0 e1 e2 e3 e4 e5 e6 e7
  obtain rfl : x1 = v0 := Option.some.inj e0
  obtain rfl : x2 = v1 := Option.some.inj e1
  obtain rfl : x77 = v2 := Option.some.inj e2
  obtain rfl : x78 = v3 := Option.some.inj e3
  obtain rfl : x79 = v4 := Option.some.inj e4
  obtain rfl : x6 = v5 := Option.some.inj e5
  obtain rfl : x7 = v6 := Option.some.inj e6
  obtain rfl : x8 = v7 := Option.some.inj e7
  exact h x0 x3 x4 x5 x9 x10 x11 x12 x13 x14 x15 x16 x17 x18 x19 x20 x21 x22 x23 x24 x25 x26 x27 x28 x29 x30 x31 x32 x33 x34 x35 x36 x37 x38 x39 x40 x41 x42 x43 x44 x45 x46 x47 x48 x49 x50 x51 x52 x53 x54 x55 x56 x57 x58 x59 x60 x61 x62 x63 x64 x65 x66 x67 x68 x69 x70 x71 x72 x73 x74 x75 x76 x80 x81 x82 x83 x84 x85 x86 x87 x88 x89 x90 x91 x92 x93 x94 x95 x96 x97 x98 x99 x100 x101 x102 x103 x104 x105 x106 x107 x108 x109 x110 x111 x112 x113 x114 x115 x116 x117 x118 x119 x120 x121 x122 x123 x124 x125 x126 x127 x128 x129 x130 x131 x132 x133 x134 x135 x136 x137 x138 x139 x140 x141 x142 x143 x144 x145 x146 x147 x148 x149 x150 x151 x152 x153 x154 x155 x156 x157 x158 x159 x160 x161 x162 x163 x164 x165 x166 x167 x168 x169 x170 x171 x172 x173 x174 x175 x176 x177 x178 x179 x180 x181 x182 x183 x184 x185 x186 x187
set_option maxRecDepth 1000000 in
set_option maxHeartbeats 16000000 in
theorem mr_r29_wp {Q : Exit → Act → World → Prop} {w : World} {rl : List Rel} {d j b o E : Nat} {wo : World} (hN : ∀ a', Frm 188 [(1, .pointer (some ⟨w.heap.size, 0, none⟩)), (2, .pointer (some ⟨w.heap.size + 1, 0, none⟩)), (77, .slice (some ⟨b, o, none⟩) rl.length d), (78, .int .i64 (rl.length : Nat)), (79, .int .i64 (j : Nat)), (6, .int .i64 (j : Nat)), (7, .pointer (some ⟨E, 0, none⟩)), (8, .int .i64 13)] a' → Q .normal a' wo) : ∀ ac, Frm 188 [(1, .pointer (some ⟨w.heap.size, 0, none⟩)), (2, .pointer (some ⟨w.heap.size + 1, 0, none⟩)), (77, .slice (some ⟨b, o, none⟩) rl.length d), (78, .int .i64 (rl.length : Nat)), (79, .int .i64 (j : Nat)), (6, .int .i64 (j : Nat)), (7, .pointer (some ⟨E, 0, none⟩)), (8, .int .i64 0)] ac → Code.wp Tryd.prog c_mr_r29 Q ac wo := by
  refine open_mr_r29 (P := fun a => Code.wp Tryd.prog c_mr_r29 Q a wo) ?_
  intro x0 x3 x4 x5 x9 x10 x11 x12 x13 x14 x15 x16 x17 x18 x19 x20 x21 x22 x23 x24 x25 x26 x27 x28 x29 x30 x31 x32 x33 x34 x35 x36 x37 x38 x39 x40 x41 x42 x43 x44 x45 x46 x47 x48 x49 x50 x51 x52 x53 x54 x55 x56 x57 x58 x59 x60 x61 x62 x63 x64 x65 x66 x67 x68 x69 x70 x71 x72 x73 x74 x75 x76 x80 x81 x82 x83 x84 x85 x86 x87 x88 x89 x90 x91 x92 x93 x94 x95 x96 x97 x98 x99 x100 x101 x102 x103 x104 x105 x106 x107 x108 x109 x110 x111 x112 x113 x114 x115 x116 x117 x118 x119 x120 x121 x122 x123 x124 x125 x126 x127 x128 x129 x130 x131 x132 x133 x134 x135 x136 x137 x138 x139 x140 x141 x142 x143 x144 x145 x146 x147 x148 x149 x150 x151 x152 x153 x154 x155 x156 x157 x158 x159 x160 x161 x162 x163 x164 x165 x166 x167 x168 x169 x170 x171 x172 x173 x174 x175 x176 x177 x178 x179 x180 x181 x182 x183 x184 x185 x186 x187
  conv => arg 2; whnf
  have HN := Lib.hid hN
  clear hN
  go_wp2_with fail
  exact HN.out _ (id ⟨rfl, rfl, rfl, rfl, rfl, rfl, rfl, rfl, rfl, rfl, trivial⟩)
noncomputable def c_mr_rcode : Code := sub [1, 1, 1, 1, 0, 1, 0, 0, 1, 1, 0, 0, 1, 1, 0] (Tryd.f8.body.getD .skip)
theorem mr_rcode_wp {Q : Exit → Act → World → Prop} {w : World} {rl : List Rel} {d j b o E : Nat} {nm : ByteArray} {ar : Int} {T : Option Addr} {tp : List (List Int)} {t : Nat} {wo : World} {sz : Int} {cl : List Con} {A : Option Addr} {c : Nat} {pv : Option Rel} (hj : j < rl.length) (hr : rl.length ≤ 300) (hn : nm.size ≤ maxLen) (hb : b < wo.heap.size) (hp0 : wo.heap[w.heap.size]? = some (.cells #[.int .i64 sz, .slice A cl.length c, .slice (some ⟨b, o, none⟩) rl.length d] 25 (0, 0))) (hpx : wo.heap[E]? = some (.cells #[.string nm, .int .i64 ar, .slice T tp.length t] 48 (0, 0))) (hpv : ∀ p, pv = some p → ∃ i T' t', j = i + 1 ∧ wo.cell? ⟨b, o + i * 3, none⟩ = some (.string p.nm) ∧ wo.cell? ⟨b, o + i * 3 + 1, none⟩ = some (.int .i64 p.ar) ∧ wo.cell? ⟨b, o + i * 3 + 2, none⟩ = some (.slice T' p.tp.length t')) (hpv0 : pv = none → j = 0)
    (hN : ∀ a' wx, Frm 188 [(1, .pointer (some ⟨w.heap.size, 0, none⟩)), (2, .pointer (some ⟨w.heap.size + 1, 0, none⟩)), (77, .slice (some ⟨b, o, none⟩) rl.length d), (78, .int .i64 (rl.length : Nat)), (79, .int .i64 (j : Nat)), (6, .int .i64 (j : Nat)), (7, .pointer (some ⟨E, 0, none⟩)), (8, .int .i64 (headCode sz pv ⟨nm, ar, tp⟩ : Nat))] a' → (∀ k, k < wo.heap.size → wx.heap[k]? = wo.heap[k]?) → Below wo.heap.size wo wx → Q .normal a' wx) : ∀ ac, Frm 188 [(1, .pointer (some ⟨w.heap.size, 0, none⟩)), (2, .pointer (some ⟨w.heap.size + 1, 0, none⟩)), (77, .slice (some ⟨b, o, none⟩) rl.length d), (78, .int .i64 (rl.length : Nat)), (79, .int .i64 (j : Nat)), (6, .int .i64 (j : Nat)), (7, .pointer (some ⟨E, 0, none⟩)), (8, .int .i64 0)] ac → Code.wp Tryd.prog c_mr_rcode Q ac wo := by
  intro a0 hf0
  conv => arg 2; whnf
  refine wp_seq ?_
  refine mr_r22_wp hn hpx (fun a1 h1 => ?_) a0 hf0
  have h1d : Frm 188 [(1, .pointer (some ⟨w.heap.size, 0, none⟩)), (2, .pointer (some ⟨w.heap.size + 1, 0, none⟩)), (77, .slice (some ⟨b, o, none⟩) rl.length d), (78, .int .i64 (rl.length : Nat)), (79, .int .i64 (j : Nat)), (6, .int .i64 (j : Nat)), (7, .pointer (some ⟨E, 0, none⟩)), (8, .int .i64 0)] a1 := have h := h1; ⟨h.1, h.2.1, h.2.2.1, h.2.2.2.1, h.2.2.2.2.1, h.2.2.2.2.2.1, h.2.2.2.2.2.2.1, h.2.2.2.2.2.2.2.1, h.2.2.2.2.2.2.2.2.1, h.2.2.2.2.2.2.2.2.2.1, trivial⟩
  cases hok : okName nm with
  | false =>
    refine wp_cond_true ((h1.eval (k := 87) (v := .bool (!okName nm)) (by simp)).trans (by rw [hok]; rfl)) ?_
    refine mr_r23_wp (fun a2 h2 => hN a2 wo ?_ (fun _ _ => rfl) (Below.refl _ _)) a1 h1d
    rw [show headCode sz pv ⟨nm, ar, tp⟩ = 10 by unfold headCode; rw [if_pos hok]]
    exact h2
  | true =>
    refine wp_cond_false ((h1.eval (k := 87) (v := .bool (!okName nm)) (by simp)).trans (by rw [hok]; rfl)) ?_
    refine wp_seq ?_
    refine mr_r24_wp hpx (fun a2 h2 => ?_) a1 h1d
    have h2d : Frm 188 [(1, .pointer (some ⟨w.heap.size, 0, none⟩)), (2, .pointer (some ⟨w.heap.size + 1, 0, none⟩)), (77, .slice (some ⟨b, o, none⟩) rl.length d), (78, .int .i64 (rl.length : Nat)), (79, .int .i64 (j : Nat)), (6, .int .i64 (j : Nat)), (7, .pointer (some ⟨E, 0, none⟩)), (8, .int .i64 0)] a2 := have h := h2; ⟨h.1, h.2.1, h.2.2.1, h.2.2.2.1, h.2.2.2.2.1, h.2.2.2.2.2.1, h.2.2.2.2.2.2.1, h.2.2.2.2.2.2.2.1, h.2.2.2.2.2.2.2.2.1, h.2.2.2.2.2.2.2.2.2.1, trivial⟩
    by_cases har : ar < 0 ∨ 3 < ar
    · refine wp_cond_true ((h2.eval (k := 95) (v := .bool (decide (ar < 0 ∨ 3 < ar))) (by simp)).trans (by rw [decide_eq_true har])) ?_
      refine mr_r25_wp (fun a3 h3 => hN a3 wo ?_ (fun _ _ => rfl) (Below.refl _ _)) a2 h2d
      rw [show headCode sz pv ⟨nm, ar, tp⟩ = 3 by unfold headCode; rw [if_neg (by rw [hok]; decide), if_pos har]]
      exact h3
    · have hh : headCode sz pv ⟨nm, ar, tp⟩ = if (pv.any fun p => decide (0 ≤ cmpR p ⟨nm, ar, tp⟩)) = true then 13 else 0 := by unfold headCode; rw [if_neg (by rw [hok]; decide), if_neg har]
      rw [hh] at hN
      refine wp_cond_false ((h2.eval (k := 95) (v := .bool (decide (ar < 0 ∨ 3 < ar))) (by simp)).trans (by rw [decide_eq_false har])) ?_
      refine wp_seq ?_
      refine mr_r26_wp (fun a3 h3 => ?_) a2 h2d
      have h3d : Frm 188 [(1, .pointer (some ⟨w.heap.size, 0, none⟩)), (2, .pointer (some ⟨w.heap.size + 1, 0, none⟩)), (77, .slice (some ⟨b, o, none⟩) rl.length d), (78, .int .i64 (rl.length : Nat)), (79, .int .i64 (j : Nat)), (6, .int .i64 (j : Nat)), (7, .pointer (some ⟨E, 0, none⟩)), (8, .int .i64 0)] a3 := have h := h3; ⟨h.1, h.2.1, h.2.2.1, h.2.2.2.1, h.2.2.2.2.1, h.2.2.2.2.2.1, h.2.2.2.2.2.2.1, h.2.2.2.2.2.2.2.1, h.2.2.2.2.2.2.2.2.1, h.2.2.2.2.2.2.2.2.2.1, trivial⟩
      cases pv with
      | none =>
        have hj0 := hpv0 rfl
        refine wp_cond_false ((h3.eval (k := 97) (v := .bool (decide (0 < j))) (by simp)).trans (by rw [decide_eq_false (by omega)])) ?_
        exact wp_skip (hN a3 wo h3d (fun _ _ => rfl) (Below.refl _ _))
      | some p =>
        obtain ⟨i, T', t', rfl, f0, f1, f2⟩ := hpv p rfl
        obtain ⟨pn, pa, pt⟩ := p
        simp only at f0 f1 f2
        refine wp_cond_true ((h3.eval (k := 97) (v := .bool (decide (0 < i + 1))) (by simp)).trans (by rw [decide_eq_true (by omega)])) ?_
        refine wp_seq ?_
        refine mr_r27_wp hj hb hr hp0 f0 f1 f2 (fun a4 h4 => ?_) a3 h3d
        refine wp_seq ?_
        have lx := lt_heap hpx
        refine mr_r28_wp (pt := pt) (heap_old lx hpx) (heap_at rfl) (fun a5 h5 => ?_) a4 h4
        have h5d : Frm 188 [(1, .pointer (some ⟨w.heap.size, 0, none⟩)), (2, .pointer (some ⟨w.heap.size + 1, 0, none⟩)), (77, .slice (some ⟨b, o, none⟩) rl.length d), (78, .int .i64 (rl.length : Nat)), (79, .int .i64 ((i + 1) : Nat)), (6, .int .i64 (i + 1 : Nat)), (7, .pointer (some ⟨E, 0, none⟩)), (8, .int .i64 0)] a5 := have h := h5; ⟨h.1, h.2.1, h.2.2.1, h.2.2.2.1, h.2.2.2.2.1, h.2.2.2.2.2.1, h.2.2.2.2.2.2.1, h.2.2.2.2.2.2.2.1, h.2.2.2.2.2.2.2.2.1, h.2.2.2.2.2.2.2.2.2.1, trivial⟩
        have hB5 : Below wo.heap.size wo (wo.alloc (.cells #[.string pn, .int .i64 pa, .slice T' pt.length t'] 48 (0, 0))) := (Below.refl _ _).alloc (Nat.le_refl _) _
        simp only [Option.any_some] at hN
        cases hge : decide (0 ≤ cmpR ⟨pn, pa, pt⟩ ⟨nm, ar, tp⟩) with
        | true =>
          rw [if_pos hge] at hN
          refine wp_cond_true ((h5.eval (k := 122) (v := .bool (decide (0 ≤ cmpR ⟨pn, pa, pt⟩ ⟨nm, ar, tp⟩))) (by simp)).trans (by rw [hge])) ?_
          exact mr_r29_wp (fun a6 h6 => hN a6 _ h6 (fun k hk => heap_old hk rfl) hB5) a5 h5d
        | false =>
          rw [if_neg (by rw [hge]; decide)] at hN
          refine wp_cond_false ((h5.eval (k := 122) (v := .bool (decide (0 ≤ cmpR ⟨pn, pa, pt⟩ ⟨nm, ar, tp⟩))) (by simp)).trans (by rw [hge])) ?_
          exact wp_skip (hN a5 _ h5d (fun k hk => heap_old hk rfl) hB5)

end Go.Proofs.YtnoceodmnjhljabDoor
