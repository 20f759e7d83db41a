/-
  TermRead by parts: the leaves.
-/
import Derived.Test.YtnoceodmnjhljaaDoorPkTrH
import Derived.Test.YtnoceodmnjhljaaDoorReadType
import Derived.Deep.DeepCutAuto
import Derived.Deep.RegionLaw
import Derived.BigQuiet
import Derived.Test.YtnoceodmnjhljaaDoorName
namespace Go.Proofs.YtnoceodmnjhljaaDoor

section
open Go Go.RowKit
set_option linter.unusedSimpArgs false
set_option linter.unusedVariables false

noncomputable def c_tr_test : Code := sub [1, 1, 1, 1, 1, 0, 0, 0, 0] (Tryd.f9.body.getD .skip)
set_option maxRecDepth 1000000 in
theorem open_tr_test {P : Act → Prop} {v0 v1 v2 v3 v4 v5 v6 : Value} (h : ∀ x1 x8 x9 x10 x11 x12 x13 x14 x15 x16 x17 x18 x19 x20 x21 x22 x23 x24 x25 x26 x27 x28 x29 x30 x31 x32 x33 x34 x35 x36 x37 x38 x39 x40 x41 x42 x43 x44 x45 x46 x47 x48 x49 x50 x51 x52 x53 x54 x55 x56 x57 x58 x59 x60 x61 x62 x63 x64 x65 x66 x67 x68 x69 x70 x71 x72 x73 x74 x75 x76 x77 x78 x79 x80 x81 x82 x83 x84 x85 x86 x87 x88 x89 x90 x91 x92 x93 x94 x95 x96 x97 x98 x99 x100 x101 x102 x103 x104 x105 x106 x107 x108 x109 x110 x111 x112 x113 x114 x115 x116 x117 x118 x119 x120 x121 x122 x123 x124 x125 x126 x127 x128 x129 x130 x131 x132 x133 x134 x135 x136 x137 x138 x139 x140 x141 x142 x143 x144 x145 x146 x147 x148 x149 x150 x151 x152 x153 x154 x155 x156 x157 x158 x159 x160 x161 x162 x163 x164 x165 x166 x167 x168 x169 x170 x171 x172 x173 x174 x175 x176 x177 x178 x179 x180 x181 x182 x183 x184 x185 x186 x187 x188 x189 x190 x191 x192 x193 x194 x195 x196 x197 x198 x199 x200 x201 x202 x203 x204 x205 x206 x207 x208 x209 x210 x211 x212 x213 x214 x215 x216 x217 x218 x219 x220 x221 x222 x223 x224 x225 x226 x227 x228 x229 x230 x231 x232 x233 x234 x235 x236 x237 x238 x239 x240 x241 x242 x243 x244 x245 x246 x247 x248 x249 x250 x251 x252 x253 x254 x255 x256 x257 x258 x259 x260 x261 x262 x263 x264 x265 x266 x267 x268 x269 x270 x271 x272 x273 x274 x275 x276 x277 x278 x279 x280 x281 x282 x283 x284 x285 x286 x287 x288 x289 x290 x291 x292 x293 x294 x295 x296 x297 x298 x299 x300 x301 x302 x303 x304 x305 x306 x307 x308 x309 x310 x311 x312 x313 x314 x315 x316 x317 x318 x319 x320 x321 x322 x323 x324 x325 x326 x327 x328 x329 : Value, P ⟨(v0 :: x1 :: v1 :: v2 :: v3 :: v4 :: v5 :: v6 :: x8 :: x9 :: x10 :: x11 :: x12 :: x13 :: x14 :: x15 :: x16 :: x17 :: x18 :: x19 :: x20 :: x21 :: x22 :: x23 :: x24 :: x25 :: x26 :: x27 :: x28 :: x29 :: x30 :: x31 :: x32 :: x33 :: x34 :: x35 :: x36 :: x37 :: x38 :: x39 :: x40 :: x41 :: x42 :: x43 :: x44 :: x45 :: x46 :: x47 :: x48 :: x49 :: x50 :: x51 :: x52 :: x53 :: x54 :: x55 :: x56 :: x57 :: x58 :: x59 :: x60 :: x61 :: x62 :: x63 :: x64 :: x65 :: x66 :: x67 :: x68 :: x69 :: x70 :: x71 :: x72 :: x73 :: x74 :: x75 :: x76 :: x77 :: x78 :: x79 :: x80 :: x81 :: x82 :: x83 :: x84 :: x85 :: x86 :: x87 :: x88 :: x89 :: x90 :: x91 :: x92 :: x93 :: x94 :: x95 :: x96 :: x97 :: x98 :: x99 :: x100 :: x101 :: x102 :: x103 :: x104 :: x105 :: x106 :: x107 :: x108 :: x109 :: x110 :: x111 :: x112 :: x113 :: x114 :: x115 :: x116 :: x117 :: x118 :: x119 :: x120 :: x121 :: x122 :: x123 :: x124 :: x125 :: x126 :: x127 :: x128 :: x129 :: x130 :: x131 :: x132 :: x133 :: x134 :: x135 :: x136 :: x137 :: x138 :: x139 :: x140 :: x141 :: x142 :: x143 :: x144 :: x145 :: x146 :: x147 :: x148 :: x149 :: x150 :: x151 :: x152 :: x153 :: x154 :: x155 :: x156 :: x157 :: x158 :: x159 :: x160 :: x161 :: x162 :: x163 :: x164 :: x165 :: x166 :: x167 :: x168 :: x169 :: x170 :: x171 :: x172 :: x173 :: x174 :: x175 :: x176 :: x177 :: x178 :: x179 :: x180 :: x181 :: x182 :: x183 :: x184 :: x185 :: x186 :: x187 :: x188 :: x189 :: x190 :: x191 :: x192 :: x193 :: x194 :: x195 :: x196 :: x197 :: x198 :: x199 :: x200 :: x201 :: x202 :: x203 :: x204 :: x205 :: x206 :: x207 :: x208 :: x209 :: x210 :: x211 :: x212 :: x213 :: x214 :: x215 :: x216 :: x217 :: x218 :: x219 :: x220 :: x221 :: x222 :: x223 :: x224 :: x225 :: x226 :: x227 :: x228 :: x229 :: x230 :: x231 :: x232 :: x233 :: x234 :: x235 :: x236 :: x237 :: x238 :: x239 :: x240 :: x241 :: x242 :: x243 :: x244 :: x245 :: x246 :: x247 :: x248 :: x249 :: x250 :: x251 :: x252 :: x253 :: x254 :: x255 :: x256 :: x257 :: x258 :: x259 :: x260 :: x261 :: x262 :: x263 :: x264 :: x265 :: x266 :: x267 :: x268 :: x269 :: x270 :: x271 :: x272 :: x273 :: x274 :: x275 :: x276 :: x277 :: x278 :: x279 :: x280 :: x281 :: x282 :: x283 :: x284 :: x285 :: x286 :: x287 :: x288 :: x289 :: x290 :: x291 :: x292 :: x293 :: x294 :: x295 :: x296 :: x297 :: x298 :: x299 :: x300 :: x301 :: x302 :: x303 :: x304 :: x305 :: x306 :: x307 :: x308 :: x309 :: x310 :: x311 :: x312 :: x313 :: x314 :: x315 :: x316 :: x317 :: x318 :: x319 :: x320 :: x321 :: x322 :: x323 :: x324 :: x325 :: x326 :: x327 :: x328 :: x329 :: []).toArray, []⟩) : ∀ a, Frm 330 [(0, v0), (2, v1), (3, v2), (4, v3), (5, v4), (6, v5), (7, v6)] a → P a := by
  rintro a ⟨h1, h2, e0, e1, e2, e3, e4, e5, e6, _⟩
  revert e0 e1 e2 e3 e4 e5 e6
  refine frame_tr (P := fun a => a.tmps.toList[0]? = some v0 → a.tmps.toList[2]? = some v1 → a.tmps.toList[3]? = some v2 → a.tmps.toList[4]? = some v3 → a.tmps.toList[5]? = some v4 → a.tmps.toList[6]? = some v5 → a.tmps.toList[7]? = some v6 → P a) ?_ a h1 h2
  intro x0 x1 x2 x3 x4 x5 x6 x7 x8 x9 x10 x11 x12 x13 x14 x15 x16 x17 x18 x19 x20 x21 x22 x23 x24 x25 x26 x27 x28 x29 x30 x31 x32 x33 x34 x35 x36 x37 x38 x39 x40 x41 x42 x43 x44 x45 x46 x47 x48 x49 x50 x51 x52 x53 x54 x55 x56 x57 x58 x59 x60 x61 x62 x63 x64 x65 x66 x67 x68 x69 x70 x71 x72 x73 x74 x75 x76 x77 x78 x79 x80 x81 x82 x83 x84 x85 x86 x87 x88 x89 x90 x91 x92 x93 x94 x95 x96 x97 x98 x99 x100 x101 x102 x103 x104 x105 x106 x107 x108 x109 x110 x111 x112 x113 x114 x115 x116 x117 x118 x119 x120 x121 x122 x123 x124 x125 x126 x127 x128 x129 x130 x131 x132 x133 x134 x135 x136 x137 x138 x139 x140 x141 x142 x143 x144 x145 x146 x147 x148 x149 x150 x151 x152 x153 x154 x155 x156 x157 x158 x159 x160 x161 x162 x163 x164 x165 x166 x167 x168 x169 x170 x171 x172 x173 x174 x175 x176 x177 x178 x179 x180 x181 x182 x183 x184 x185 x186 x187 x188 x189 x190 x191 x192 x193 x194 x195 x196 x197 x198 x199 x200 x201 x202 x203 x204 x205 x206 x207 x208 x209 x210 x211 x212 x213 x214 x215 x216 x217 x218 x219 x220 x221 x222 x223 x224 x225 x226 x227 x228 x229 x230 x231 x232 x233 x234 x235 x236 x237 x238 x239 x240 x241 x242 x243 x244 x245 x246 x247 x248 x249 x250 x251 x252 x253 x254 x255 x256 x257 x258 x259 x260 x261 x262 x263 x264 x265 x266 x267 x268 x269 x270 x271 x272 x273 x274 x275 x276 x277 x278 x279 x280 x281 x282 x283 x284 x285 x286 x287 x288 x289 x290 x291 x292 x293 x294 x295 x296 x297 x298 x299 x300 x301 x302 x303 x304 x305 x306 x307 x308 x309 x310 x311 x312 x313 x314 x315 x316 x317 x318 x319 x320 x321 x322 x323 x324 x325 x326 x327 x328 x329 e0 e1 e2 e3 e4 e5 e6
  obtain rfl : x0 = v0 := Option.some.inj e0
  obtain rfl : x2 = v1 := Option.some.inj e1
  obtain rfl : x3 = v2 := Option.some.inj e2
  obtain rfl : x4 = v3 := Option.some.inj e3
  obtain rfl : x5 = v4 := Option.some.inj e4
  obtain rfl : x6 = v5 := Option.some.inj e5
  obtain rfl : x7 = v6 := Option.some.inj e6
  exact h x1 x8 x9 x10 x11 x12 x13 x14 x15 x16 x17 x18 x19 x20 x21 x22 x23 x24 x25 x26 x27 x28 x29 x30 x31 x32 x33 x34 x35 x36 x37 x38 x39 x40 x41 x42 x43 x44 x45 x46 x47 x48 x49 x50 x51 x52 x53 x54 x55 x56 x57 x58 x59 x60 x61 x62 x63 x64 x65 x66 x67 x68 x69 x70 x71 x72 x73 x74 x75 x76 x77 x78 x79 x80 x81 x82 x83 x84 x85 x86 x87 x88 x89 x90 x91 x92 x93 x94 x95 x96 x97 x98 x99 x100 x101 x102 x103 x104 x105 x106 x107 x108 x109 x110 x111 x112 x113 x114 x115 x116 x117 x118 x119 x120 x121 x122 x123 x124 x125 x126 x127 x128 x129 x130 x131 x132 x133 x134 x135 x136 x137 x138 x139 x140 x141 x142 x143 x144 x145 x146 x147 x148 x149 x150 x151 x152 x153 x154 x155 x156 x157 x158 x159 x160 x161 x162 x163 x164 x165 x166 x167 x168 x169 x170 x171 x172 x173 x174 x175 x176 x177 x178 x179 x180 x181 x182 x183 x184 x185 x186 x187 x188 x189 x190 x191 x192 x193 x194 x195 x196 x197 x198 x199 x200 x201 x202 x203 x204 x205 x206 x207 x208 x209 x210 x211 x212 x213 x214 x215 x216 x217 x218 x219 x220 x221 x222 x223 x224 x225 x226 x227 x228 x229 x230 x231 x232 x233 x234 x235 x236 x237 x238 x239 x240 x241 x242 x243 x244 x245 x246 x247 x248 x249 x250 x251 x252 x253 x254 x255 x256 x257 x258 x259 x260 x261 x262 x263 x264 x265 x266 x267 x268 x269 x270 x271 x272 x273 x274 x275 x276 x277 x278 x279 x280 x281 x282 x283 x284 x285 x286 x287 x288 x289 x290 x291 x292 x293 x294 x295 x296 x297 x298 x299 x300 x301 x302 x303 x304 x305 x306 x307 x308 x309 x310 x311 x312 x313 x314 x315 x316 x317 x318 x319 x320 x321 x322 x323 x324 x325 x326 x327 x328 x329
set_option maxRecDepth 1000000 in
set_option maxHeartbeats 16000000 in
theorem tr_test_wp {Q : Exit → Act → World → Prop} {x : ByteArray} {w wr : World} {frs : List F7} {Aq : Option Addr} {cq i n : Nat} (hx4 : x.size ≤ 4000) (hz : (wr.heap[w.heap.size]? = some (.cells #[.int .i64 0, .string ⟨#[]⟩, .int .i64 0, .string ⟨#[]⟩, .slice none 0 0, .slice none 0 0] 27 (0, 0)) ∧ wr.heap[w.heap.size + 1]? = some (.cells #[.int .i64 0, .int .i64 0] 29 (0, 0)) ∧ wr.heap[w.heap.size + 2]? = some (.cells #[.int .i64 0, .string ⟨#[]⟩, .int .i64 0, .string ⟨#[]⟩, .slice none 0 0, .slice none 0 0] 27 (0, 0)))) (hB : Below w.heap.size w wr) (hR : ¬ startB (byteAt x i) → ∀ a' w', Frm 330 [(2, .pointer (some ⟨w.heap.size, 0, none⟩)), (3, .pointer (some ⟨w.heap.size + 1, 0, none⟩))] a' → w'.heap[w.heap.size]? = some (.cells #[.int .i64 0, .string ⟨#[]⟩, .int .i64 0, .string ⟨#[]⟩, .slice none 0 0, .slice none 0 0] 27 (0, 0)) → w'.heap[w.heap.size + 1]? = some (.cells #[.int .i64 11, .int .i64 (i : Nat)] 29 (0, 0)) → Below w.heap.size w w' → Q .ret a' w') (hN : startB (byteAt x i) → i < x.size → ∀ a', Frm 330 [(0, .string x), (2, .pointer (some ⟨w.heap.size, 0, none⟩)), (3, .pointer (some ⟨w.heap.size + 1, 0, none⟩)), (4, .slice Aq frs.length cq), (5, .int .i64 (i : Nat)), (6, .int .i64 (n : Nat)), (7, .pointer (some ⟨w.heap.size + 2, 0, none⟩))] a' → Q .normal a' wr) : ∀ ac, Frm 330 [(0, .string x), (2, .pointer (some ⟨w.heap.size, 0, none⟩)), (3, .pointer (some ⟨w.heap.size + 1, 0, none⟩)), (4, .slice Aq frs.length cq), (5, .int .i64 (i : Nat)), (6, .int .i64 (n : Nat)), (7, .pointer (some ⟨w.heap.size + 2, 0, none⟩))] ac → Code.wp Tryd.prog c_tr_test Q ac wr := by
  refine open_tr_test (P := fun a => Code.wp Tryd.prog c_tr_test Q a wr) ?_
  intro x1 x8 x9 x10 x11 x12 x13 x14 x15 x16 x17 x18 x19 x20 x21 x22 x23 x24 x25 x26 x27 x28 x29 x30 x31 x32 x33 x34 x35 x36 x37 x38 x39 x40 x41 x42 x43 x44 x45 x46 x47 x48 x49 x50 x51 x52 x53 x54 x55 x56 x57 x58 x59 x60 x61 x62 x63 x64 x65 x66 x67 x68 x69 x70 x71 x72 x73 x74 x75 x76 x77 x78 x79 x80 x81 x82 x83 x84 x85 x86 x87 x88 x89 x90 x91 x92 x93 x94 x95 x96 x97 x98 x99 x100 x101 x102 x103 x104 x105 x106 x107 x108 x109 x110 x111 x112 x113 x114 x115 x116 x117 x118 x119 x120 x121 x122 x123 x124 x125 x126 x127 x128 x129 x130 x131 x132 x133 x134 x135 x136 x137 x138 x139 x140 x141 x142 x143 x144 x145 x146 x147 x148 x149 x150 x151 x152 x153 x154 x155 x156 x157 x158 x159 x160 x161 x162 x163 x164 x165 x166 x167 x168 x169 x170 x171 x172 x173 x174 x175 x176 x177 x178 x179 x180 x181 x182 x183 x184 x185 x186 x187 x188 x189 x190 x191 x192 x193 x194 x195 x196 x197 x198 x199 x200 x201 x202 x203 x204 x205 x206 x207 x208 x209 x210 x211 x212 x213 x214 x215 x216 x217 x218 x219 x220 x221 x222 x223 x224 x225 x226 x227 x228 x229 x230 x231 x232 x233 x234 x235 x236 x237 x238 x239 x240 x241 x242 x243 x244 x245 x246 x247 x248 x249 x250 x251 x252 x253 x254 x255 x256 x257 x258 x259 x260 x261 x262 x263 x264 x265 x266 x267 x268 x269 x270 x271 x272 x273 x274 x275 x276 x277 x278 x279 x280 x281 x282 x283 x284 x285 x286 x287 x288 x289 x290 x291 x292 x293 x294 x295 x296 x297 x298 x299 x300 x301 x302 x303 x304 x305 x306 x307 x308 x309 x310 x311 x312 x313 x314 x315 x316 x317 x318 x319 x320 x321 x322 x323 x324 x325 x326 x327 x328 x329
  conv => arg 2; whnf
  have HR := Lib.hid hR
  have HN := Lib.hid hN
  clear hR hN
  obtain ⟨pz, pf, pn⟩ := hz
  have HB := Lib.hid hB
  clear hB
  have pz_0 := cv0 pz
  have pz_1 := cv1 pz
  have pz_2 := cv2 pz
  have pz_3 := cv3 pz
  have pz_4 := cv4 pz
  have pz_5 := cv5 pz
  have pz_f0 := free_heap pz 0
  have pz_f1 := free_heap pz 1
  have pz_f2 := free_heap pz 2
  have pz_f3 := free_heap pz 3
  have pz_f4 := free_heap pz 4
  have pz_f5 := free_heap pz 5
  have pz_l := lt_heap pz
  have PZ := Lib.hid pz
  clear pz
  have pf_0 := cv0 pf
  have pf_1 := cv1 pf
  have pf_f0 := free_heap pf 0
  have pf_f1 := free_heap pf 1
  have pf_l := lt_heap pf
  have PF := Lib.hid pf
  clear pf
  have pn_0 := cv0 pn
  have pn_1 := cv1 pn
  have pn_2 := cv2 pn
  have pn_3 := cv3 pn
  have pn_4 := cv4 pn
  have pn_5 := cv5 pn
  have pn_l := lt_heap pn
  have PN := Lib.hid pn
  clear pn
  by_cases hi : i < x.size
  case neg =>
    have q1 : (x.size : Int) ≤ (i : Int) := by omega
    have hs : ¬ startB (byteAt x i) := by rw [byteAt_out (by omega)]; unfold startB; omega
    replace HR := Lib.hid (HR.out hs)
    clear hs
    go_wp2_with fail
    exact HR.out _ _ (id ⟨rfl, rfl, rfl, rfl, trivial⟩) (far2 (by omega) (at6 PZ.out)) (at2 (far6 (by omega) PF.out)) (below2 (below6 HB.out (Nat.le_refl _)) (by omega))
  have hba : byteAt x i = (x[i]'hi).toNat := byteAt_in hi
  have q1 : ¬ (x.size : Int) ≤ (i : Int) := by omega
  have HBA := Lib.hid hba
  clear hba
  by_cases h1 : (x[i]'hi).toNat = 35
  · have t1 : (((((x[i]'hi).toNat : Nat) : Int)) != 35) = false := by rw [h1]; rfl
    have hs : startB (byteAt x i) := by rw [HBA.out]; exact Or.inl h1
    have HS := Lib.hid hs
    clear hs
    clear h1
    go_wp2_with fail
    exact HN.out HS.out hi _ ⟨rfl, rfl, rfl, rfl, rfl, rfl, rfl, rfl, rfl, trivial⟩
  have t1 : (((((x[i]'hi).toNat : Nat) : Int)) != 35) = true := bne_iff_ne.2 (by omega)
  by_cases h2 : (x[i]'hi).toNat = 91
  · have t2 : (((((x[i]'hi).toNat : Nat) : Int)) != 91) = false := by rw [h2]; rfl
    have hs : startB (byteAt x i) := by rw [HBA.out]; exact Or.inr (Or.inl h2)
    have HS := Lib.hid hs
    clear hs
    clear h1 h2
    go_wp2_with fail
    exact HN.out HS.out hi _ ⟨rfl, rfl, rfl, rfl, rfl, rfl, rfl, rfl, rfl, trivial⟩
  have t2 : (((((x[i]'hi).toNat : Nat) : Int)) != 91) = true := bne_iff_ne.2 (by omega)
  by_cases h3 : (x[i]'hi).toNat = 40
  · have t3 : (((((x[i]'hi).toNat : Nat) : Int)) != 40) = false := by rw [h3]; rfl
    have hs : startB (byteAt x i) := by rw [HBA.out]; exact Or.inr (Or.inr (Or.inl h3))
    have HS := Lib.hid hs
    clear hs
    clear h1 h2 h3
    go_wp2_with fail
    exact HN.out HS.out hi _ ⟨rfl, rfl, rfl, rfl, rfl, rfl, rfl, rfl, rfl, trivial⟩
  have t3 : (((((x[i]'hi).toNat : Nat) : Int)) != 40) = true := bne_iff_ne.2 (by omega)
  by_cases h4 : 97 ≤ (x[i]'hi).toNat
  case neg =>
    have t4 : ((((x[i]'hi).toNat : Nat) : Int)) < 97 := by omega
    have hs : ¬ startB (byteAt x i) := by rw [HBA.out]; unfold startB; omega
    replace HR := Lib.hid (HR.out hs)
    clear h1 h2 h3 h4 hs
    go_wp2_with fail
    exact HR.out _ _ (id ⟨rfl, rfl, rfl, rfl, trivial⟩) (far2 (by omega) (at6 PZ.out)) (at2 (far6 (by omega) PF.out)) (below2 (below6 HB.out (Nat.le_refl _)) (by omega))
  have t4 : ¬ ((((x[i]'hi).toNat : Nat) : Int)) < 97 := by omega
  by_cases h5 : (x[i]'hi).toNat ≤ 122
  · have t5 : ¬ 122 < ((((x[i]'hi).toNat : Nat) : Int)) := by omega
    have hs : startB (byteAt x i) := by rw [HBA.out]; exact Or.inr (Or.inr (Or.inr ⟨h4, h5⟩))
    have HS := Lib.hid hs
    clear hs
    clear h1 h2 h3 h4 h5
    go_wp2_with fail
    exact HN.out HS.out hi _ ⟨rfl, rfl, rfl, rfl, rfl, rfl, rfl, rfl, rfl, trivial⟩
  · have t5 : 122 < ((((x[i]'hi).toNat : Nat) : Int)) := by omega
    have hs : ¬ startB (byteAt x i) := by rw [HBA.out]; unfold startB; omega
    replace HR := Lib.hid (HR.out hs)
    clear h1 h2 h3 h4 h5 hs
    go_wp2_with fail
    exact HR.out _ _ (id ⟨rfl, rfl, rfl, rfl, trivial⟩) (far2 (by omega) (at6 PZ.out)) (at2 (far6 (by omega) PF.out)) (below2 (below6 HB.out (Nat.le_refl _)) (by omega))
noncomputable def c_tr_inc : Code := sub [1, 1, 1, 1, 1, 0, 0, 0, 1, 0] (Tryd.f9.body.getD .skip)
set_option maxRecDepth 1000000 in
theorem open_tr_inc {P : Act → Prop} {v0 v1 v2 v3 v4 v5 v6 : Value} (h : ∀ x1 x8 x9 x10 x11 x12 x13 x14 x15 x16 x17 x18 x19 x20 x21 x22 x23 x24 x25 x26 x27 x28 x29 x30 x31 x32 x33 x34 x35 x36 x37 x38 x39 x40 x41 x42 x43 x44 x45 x46 x47 x48 x49 x50 x51 x52 x53 x54 x55 x56 x57 x58 x59 x60 x61 x62 x63 x64 x65 x66 x67 x68 x69 x70 x71 x72 x73 x74 x75 x76 x77 x78 x79 x80 x81 x82 x83 x84 x85 x86 x87 x88 x89 x90 x91 x92 x93 x94 x95 x96 x97 x98 x99 x100 x101 x102 x103 x104 x105 x106 x107 x108 x109 x110 x111 x112 x113 x114 x115 x116 x117 x118 x119 x120 x121 x122 x123 x124 x125 x126 x127 x128 x129 x130 x131 x132 x133 x134 x135 x136 x137 x138 x139 x140 x141 x142 x143 x144 x145 x146 x147 x148 x149 x150 x151 x152 x153 x154 x155 x156 x157 x158 x159 x160 x161 x162 x163 x164 x165 x166 x167 x168 x169 x170 x171 x172 x173 x174 x175 x176 x177 x178 x179 x180 x181 x182 x183 x184 x185 x186 x187 x188 x189 x190 x191 x192 x193 x194 x195 x196 x197 x198 x199 x200 x201 x202 x203 x204 x205 x206 x207 x208 x209 x210 x211 x212 x213 x214 x215 x216 x217 x218 x219 x220 x221 x222 x223 x224 x225 x226 x227 x228 x229 x230 x231 x232 x233 x234 x235 x236 x237 x238 x239 x240 x241 x242 x243 x244 x245 x246 x247 x248 x249 x250 x251 x252 x253 x254 x255 x256 x257 x258 x259 x260 x261 x262 x263 x264 x265 x266 x267 x268 x269 x270 x271 x272 x273 x274 x275 x276 x277 x278 x279 x280 x281 x282 x283 x284 x285 x286 x287 x288 x289 x290 x291 x292 x293 x294 x295 x296 x297 x298 x299 x300 x301 x302 x303 x304 x305 x306 x307 x308 x309 x310 x311 x312 x313 x314 x315 x316 x317 x318 x319 x320 x321 x322 x323 x324 x325 x326 x327 x328 x329 : Value, P ⟨(v0 :: x1 :: v1 :: v2 :: v3 :: v4 :: v5 :: v6 :: x8 :: x9 :: x10 :: x11 :: x12 :: x13 :: x14 :: x15 :: x16 :: x17 :: x18 :: x19 :: x20 :: x21 :: x22 :: x23 :: x24 :: x25 :: x26 :: x27 :: x28 :: x29 :: x30 :: x31 :: x32 :: x33 :: x34 :: x35 :: x36 :: x37 :: x38 :: x39 :: x40 :: x41 :: x42 :: x43 :: x44 :: x45 :: x46 :: x47 :: x48 :: x49 :: x50 :: x51 :: x52 :: x53 :: x54 :: x55 :: x56 :: x57 :: x58 :: x59 :: x60 :: x61 :: x62 :: x63 :: x64 :: x65 :: x66 :: x67 :: x68 :: x69 :: x70 :: x71 :: x72 :: x73 :: x74 :: x75 :: x76 :: x77 :: x78 :: x79 :: x80 :: x81 :: x82 :: x83 :: x84 :: x85 :: x86 :: x87 :: x88 :: x89 :: x90 :: x91 :: x92 :: x93 :: x94 :: x95 :: x96 :: x97 :: x98 :: x99 :: x100 :: x101 :: x102 :: x103 :: x104 :: x105 :: x106 :: x107 :: x108 :: x109 :: x110 :: x111 :: x112 :: x113 :: x114 :: x115 :: x116 :: x117 :: x118 :: x119 :: x120 :: x121 :: x122 :: x123 :: x124 :: x125 :: x126 :: x127 :: x128 :: x129 :: x130 :: x131 :: x132 :: x133 :: x134 :: x135 :: x136 :: x137 :: x138 :: x139 :: x140 :: x141 :: x142 :: x143 :: x144 :: x145 :: x146 :: x147 :: x148 :: x149 :: x150 :: x151 :: x152 :: x153 :: x154 :: x155 :: x156 :: x157 :: x158 :: x159 :: x160 :: x161 :: x162 :: x163 :: x164 :: x165 :: x166 :: x167 :: x168 :: x169 :: x170 :: x171 :: x172 :: x173 :: x174 :: x175 :: x176 :: x177 :: x178 :: x179 :: x180 :: x181 :: x182 :: x183 :: x184 :: x185 :: x186 :: x187 :: x188 :: x189 :: x190 :: x191 :: x192 :: x193 :: x194 :: x195 :: x196 :: x197 :: x198 :: x199 :: x200 :: x201 :: x202 :: x203 :: x204 :: x205 :: x206 :: x207 :: x208 :: x209 :: x210 :: x211 :: x212 :: x213 :: x214 :: x215 :: x216 :: x217 :: x218 :: x219 :: x220 :: x221 :: x222 :: x223 :: x224 :: x225 :: x226 :: x227 :: x228 :: x229 :: x230 :: x231 :: x232 :: x233 :: x234 :: x235 :: x236 :: x237 :: x238 :: x239 :: x240 :: x241 :: x242 :: x243 :: x244 :: x245 :: x246 :: x247 :: x248 :: x249 :: x250 :: x251 :: x252 :: x253 :: x254 :: x255 :: x256 :: x257 :: x258 :: x259 :: x260 :: x261 :: x262 :: x263 :: x264 :: x265 :: x266 :: x267 :: x268 :: x269 :: x270 :: x271 :: x272 :: x273 :: x274 :: x275 :: x276 :: x277 :: x278 :: x279 :: x280 :: x281 :: x282 :: x283 :: x284 :: x285 :: x286 :: x287 :: x288 :: x289 :: x290 :: x291 :: x292 :: x293 :: x294 :: x295 :: x296 :: x297 :: x298 :: x299 :: x300 :: x301 :: x302 :: x303 :: x304 :: x305 :: x306 :: x307 :: x308 :: x309 :: x310 :: x311 :: x312 :: x313 :: x314 :: x315 :: x316 :: x317 :: x318 :: x319 :: x320 :: x321 :: x322 :: x323 :: x324 :: x325 :: x326 :: x327 :: x328 :: x329 :: []).toArray, []⟩) : ∀ a, Frm 330 [(0, v0), (2, v1), (3, v2), (4, v3), (5, v4), (6, v5), (7, v6)] a → P a := by
  rintro a ⟨h1, h2, e0, e1, e2, e3, e4, e5, e6, _⟩
  revert e0 e1 e2 e3 e4 e5 e6
  refine frame_tr (P := fun a => a.tmps.toList[0]? = some v0 → a.tmps.toList[2]? = some v1 → a.tmps.toList[3]? = some v2 → a.tmps.toList[4]? = some v3 → a.tmps.toList[5]? = some v4 → a.tmps.toList[6]? = some v5 → a.tmps.toList[7]? = some v6 → P a) ?_ a h1 h2
  intro x0 x1 x2 x3 x4 x5 x6 x7 x8 x9 x10 x11 x12 x13 x14 x15 x16 x17 x18 x19 x20 x21 x22 x23 x24 x25 x26 x27 x28 x29 x30 x31 x32 x33 x34 x35 x36 x37 x38 x39 x40 x41 x42 x43 x44 x45 x46 x47 x48 x49 x50 x51 x52 x53 x54 x55 x56 x57 x58 x59 x60 x61 x62 x63 x64 x65 x66 x67 x68 x69 x70 x71 x72 x73 x74 x75 x76 x77 x78 x79 x80 x81 x82 x83 x84 x85 x86 x87 x88 x89 x90 x91 x92 x93 x94 x95 x96 x97 x98 x99 x100 x101 x102 x103 x104 x105 x106 x107 x108 x109 x110 x111 x112 x113 x114 x115 x116 x117 x118 x119 x120 x121 x122 x123 x124 x125 x126 x127 x128 x129 x130 x131 x132 x133 x134 x135 x136 x137 x138 x139 x140 x141 x142 x143 x144 x145 x146 x147 x148 x149 x150 x151 x152 x153 x154 x155 x156 x157 x158 x159 x160 x161 x162 x163 x164 x165 x166 x167 x168 x169 x170 x171 x172 x173 x174 x175 x176 x177 x178 x179 x180 x181 x182 x183 x184 x185 x186 x187 x188 x189 x190 x191 x192 x193 x194 x195 x196 x197 x198 x199 x200 x201 x202 x203 x204 x205 x206 x207 x208 x209 x210 x211 x212 x213 x214 x215 x216 x217 x218 x219 x220 x221 x222 x223 x224 x225 x226 x227 x228 x229 x230 x231 x232 x233 x234 x235 x236 x237 x238 x239 x240 x241 x242 x243 x244 x245 x246 x247 x248 x249 x250 x251 x252 x253 x254 x255 x256 x257 x258 x259 x260 x261 x262 x263 x264 x265 x266 x267 x268 x269 x270 x271 x272 x273 x274 x275 x276 x277 x278 x279 x280 x281 x282 x283 x284 x285 x286 x287 x288 x289 x290 x291 x292 x293 x294 x295 x296 x297 x298 x299 x300 x301 x302 x303 x304 x305 x306 x307 x308 x309 x310 x311 x312 x313 x314 x315 x316 x317 x318 x319 x320 x321 x322 x323 x324 x325 x326 x327 x328 x329 e0 e1 e2 e3 e4 e5 e6
  obtain rfl : x0 = v0 := Option.some.inj e0
  obtain rfl : x2 = v1 := Option.some.inj e1
  obtain rfl : x3 = v2 := Option.some.inj e2
  obtain rfl : x4 = v3 := Option.some.inj e3
  obtain rfl : x5 = v4 := Option.some.inj e4
  obtain rfl : x6 = v5 := Option.some.inj e5
  obtain rfl : x7 = v6 := Option.some.inj e6
  exact h x1 x8 x9 x10 x11 x12 x13 x14 x15 x16 x17 x18 x19 x20 x21 x22 x23 x24 x25 x26 x27 x28 x29 x30 x31 x32 x33 x34 x35 x36 x37 x38 x39 x40 x41 x42 x43 x44 x45 x46 x47 x48 x49 x50 x51 x52 x53 x54 x55 x56 x57 x58 x59 x60 x61 x62 x63 x64 x65 x66 x67 x68 x69 x70 x71 x72 x73 x74 x75 x76 x77 x78 x79 x80 x81 x82 x83 x84 x85 x86 x87 x88 x89 x90 x91 x92 x93 x94 x95 x96 x97 x98 x99 x100 x101 x102 x103 x104 x105 x106 x107 x108 x109 x110 x111 x112 x113 x114 x115 x116 x117 x118 x119 x120 x121 x122 x123 x124 x125 x126 x127 x128 x129 x130 x131 x132 x133 x134 x135 x136 x137 x138 x139 x140 x141 x142 x143 x144 x145 x146 x147 x148 x149 x150 x151 x152 x153 x154 x155 x156 x157 x158 x159 x160 x161 x162 x163 x164 x165 x166 x167 x168 x169 x170 x171 x172 x173 x174 x175 x176 x177 x178 x179 x180 x181 x182 x183 x184 x185 x186 x187 x188 x189 x190 x191 x192 x193 x194 x195 x196 x197 x198 x199 x200 x201 x202 x203 x204 x205 x206 x207 x208 x209 x210 x211 x212 x213 x214 x215 x216 x217 x218 x219 x220 x221 x222 x223 x224 x225 x226 x227 x228 x229 x230 x231 x232 x233 x234 x235 x236 x237 x238 x239 x240 x241 x242 x243 x244 x245 x246 x247 x248 x249 x250 x251 x252 x253 x254 x255 x256 x257 x258 x259 x260 x261 x262 x263 x264 x265 x266 x267 x268 x269 x270 x271 x272 x273 x274 x275 x276 x277 x278 x279 x280 x281 x282 x283 x284 x285 x286 x287 x288 x289 x290 x291 x292 x293 x294 x295 x296 x297 x298 x299 x300 x301 x302 x303 x304 x305 x306 x307 x308 x309 x310 x311 x312 x313 x314 x315 x316 x317 x318 x319 x320 x321 x322 x323 x324 x325 x326 x327 x328 x329
set_option maxRecDepth 1000000 in
set_option maxHeartbeats 16000000 in
theorem tr_inc_wp {Q : Exit → Act → World → Prop} {x : ByteArray} {w wr : World} {frs : List F7} {Aq : Option Addr} {cq i n : Nat} (hn : n ≤ 1000) (hN : ∀ a', Frm 330 [(0, .string x), (2, .pointer (some ⟨w.heap.size, 0, none⟩)), (3, .pointer (some ⟨w.heap.size + 1, 0, none⟩)), (4, .slice Aq frs.length cq), (5, .int .i64 (i : Nat)), (6, .int .i64 (n + 1 : Nat)), (7, .pointer (some ⟨w.heap.size + 2, 0, none⟩))] a' → Q .normal a' wr) : ∀ ac, Frm 330 [(0, .string x), (2, .pointer (some ⟨w.heap.size, 0, none⟩)), (3, .pointer (some ⟨w.heap.size + 1, 0, none⟩)), (4, .slice Aq frs.length cq), (5, .int .i64 (i : Nat)), (6, .int .i64 (n : Nat)), (7, .pointer (some ⟨w.heap.size + 2, 0, none⟩))] ac → Code.wp Tryd.prog c_tr_inc Q ac wr := by
  refine open_tr_inc (P := fun a => Code.wp Tryd.prog c_tr_inc Q a wr) ?_
  intro x1 x8 x9 x10 x11 x12 x13 x14 x15 x16 x17 x18 x19 x20 x21 x22 x23 x24 x25 x26 x27 x28 x29 x30 x31 x32 x33 x34 x35 x36 x37 x38 x39 x40 x41 x42 x43 x44 x45 x46 x47 x48 x49 x50 x51 x52 x53 x54 x55 x56 x57 x58 x59 x60 x61 x62 x63 x64 x65 x66 x67 x68 x69 x70 x71 x72 x73 x74 x75 x76 x77 x78 x79 x80 x81 x82 x83 x84 x85 x86 x87 x88 x89 x90 x91 x92 x93 x94 x95 x96 x97 x98 x99 x100 x101 x102 x103 x104 x105 x106 x107 x108 x109 x110 x111 x112 x113 x114 x115 x116 x117 x118 x119 x120 x121 x122 x123 x124 x125 x126 x127 x128 x129 x130 x131 x132 x133 x134 x135 x136 x137 x138 x139 x140 x141 x142 x143 x144 x145 x146 x147 x148 x149 x150 x151 x152 x153 x154 x155 x156 x157 x158 x159 x160 x161 x162 x163 x164 x165 x166 x167 x168 x169 x170 x171 x172 x173 x174 x175 x176 x177 x178 x179 x180 x181 x182 x183 x184 x185 x186 x187 x188 x189 x190 x191 x192 x193 x194 x195 x196 x197 x198 x199 x200 x201 x202 x203 x204 x205 x206 x207 x208 x209 x210 x211 x212 x213 x214 x215 x216 x217 x218 x219 x220 x221 x222 x223 x224 x225 x226 x227 x228 x229 x230 x231 x232 x233 x234 x235 x236 x237 x238 x239 x240 x241 x242 x243 x244 x245 x246 x247 x248 x249 x250 x251 x252 x253 x254 x255 x256 x257 x258 x259 x260 x261 x262 x263 x264 x265 x266 x267 x268 x269 x270 x271 x272 x273 x274 x275 x276 x277 x278 x279 x280 x281 x282 x283 x284 x285 x286 x287 x288 x289 x290 x291 x292 x293 x294 x295 x296 x297 x298 x299 x300 x301 x302 x303 x304 x305 x306 x307 x308 x309 x310 x311 x312 x313 x314 x315 x316 x317 x318 x319 x320 x321 x322 x323 x324 x325 x326 x327 x328 x329
  conv => arg 2; whnf
  have HN := Lib.hid hN
  clear hN
  have hw : ((n : Int) + 1) = ((n + 1 : Nat) : Int) := by omega
  have HW := Lib.hid hw
  clear hw
  go_wp2_with fail
  rw [HW.out]
  exact HN.out _ (id ⟨rfl, rfl, rfl, rfl, rfl, rfl, rfl, rfl, rfl, trivial⟩)
noncomputable def c_tr_lim : Code := sub [1, 1, 1, 1, 1, 0, 0, 0, 1, 1, 0] (Tryd.f9.body.getD .skip)
set_option maxRecDepth 1000000 in
theorem open_tr_lim {P : Act → Prop} {v0 v1 v2 v3 v4 v5 v6 : Value} (h : ∀ x1 x8 x9 x10 x11 x12 x13 x14 x15 x16 x17 x18 x19 x20 x21 x22 x23 x24 x25 x26 x27 x28 x29 x30 x31 x32 x33 x34 x35 x36 x37 x38 x39 x40 x41 x42 x43 x44 x45 x46 x47 x48 x49 x50 x51 x52 x53 x54 x55 x56 x57 x58 x59 x60 x61 x62 x63 x64 x65 x66 x67 x68 x69 x70 x71 x72 x73 x74 x75 x76 x77 x78 x79 x80 x81 x82 x83 x84 x85 x86 x87 x88 x89 x90 x91 x92 x93 x94 x95 x96 x97 x98 x99 x100 x101 x102 x103 x104 x105 x106 x107 x108 x109 x110 x111 x112 x113 x114 x115 x116 x117 x118 x119 x120 x121 x122 x123 x124 x125 x126 x127 x128 x129 x130 x131 x132 x133 x134 x135 x136 x137 x138 x139 x140 x141 x142 x143 x144 x145 x146 x147 x148 x149 x150 x151 x152 x153 x154 x155 x156 x157 x158 x159 x160 x161 x162 x163 x164 x165 x166 x167 x168 x169 x170 x171 x172 x173 x174 x175 x176 x177 x178 x179 x180 x181 x182 x183 x184 x185 x186 x187 x188 x189 x190 x191 x192 x193 x194 x195 x196 x197 x198 x199 x200 x201 x202 x203 x204 x205 x206 x207 x208 x209 x210 x211 x212 x213 x214 x215 x216 x217 x218 x219 x220 x221 x222 x223 x224 x225 x226 x227 x228 x229 x230 x231 x232 x233 x234 x235 x236 x237 x238 x239 x240 x241 x242 x243 x244 x245 x246 x247 x248 x249 x250 x251 x252 x253 x254 x255 x256 x257 x258 x259 x260 x261 x262 x263 x264 x265 x266 x267 x268 x269 x270 x271 x272 x273 x274 x275 x276 x277 x278 x279 x280 x281 x282 x283 x284 x285 x286 x287 x288 x289 x290 x291 x292 x293 x294 x295 x296 x297 x298 x299 x300 x301 x302 x303 x304 x305 x306 x307 x308 x309 x310 x311 x312 x313 x314 x315 x316 x317 x318 x319 x320 x321 x322 x323 x324 x325 x326 x327 x328 x329 : Value, P ⟨(v0 :: x1 :: v1 :: v2 :: v3 :: v4 :: v5 :: v6 :: x8 :: x9 :: x10 :: x11 :: x12 :: x13 :: x14 :: x15 :: x16 :: x17 :: x18 :: x19 :: x20 :: x21 :: x22 :: x23 :: x24 :: x25 :: x26 :: x27 :: x28 :: x29 :: x30 :: x31 :: x32 :: x33 :: x34 :: x35 :: x36 :: x37 :: x38 :: x39 :: x40 :: x41 :: x42 :: x43 :: x44 :: x45 :: x46 :: x47 :: x48 :: x49 :: x50 :: x51 :: x52 :: x53 :: x54 :: x55 :: x56 :: x57 :: x58 :: x59 :: x60 :: x61 :: x62 :: x63 :: x64 :: x65 :: x66 :: x67 :: x68 :: x69 :: x70 :: x71 :: x72 :: x73 :: x74 :: x75 :: x76 :: x77 :: x78 :: x79 :: x80 :: x81 :: x82 :: x83 :: x84 :: x85 :: x86 :: x87 :: x88 :: x89 :: x90 :: x91 :: x92 :: x93 :: x94 :: x95 :: x96 :: x97 :: x98 :: x99 :: x100 :: x101 :: x102 :: x103 :: x104 :: x105 :: x106 :: x107 :: x108 :: x109 :: x110 :: x111 :: x112 :: x113 :: x114 :: x115 :: x116 :: x117 :: x118 :: x119 :: x120 :: x121 :: x122 :: x123 :: x124 :: x125 :: x126 :: x127 :: x128 :: x129 :: x130 :: x131 :: x132 :: x133 :: x134 :: x135 :: x136 :: x137 :: x138 :: x139 :: x140 :: x141 :: x142 :: x143 :: x144 :: x145 :: x146 :: x147 :: x148 :: x149 :: x150 :: x151 :: x152 :: x153 :: x154 :: x155 :: x156 :: x157 :: x158 :: x159 :: x160 :: x161 :: x162 :: x163 :: x164 :: x165 :: x166 :: x167 :: x168 :: x169 :: x170 :: x171 :: x172 :: x173 :: x174 :: x175 :: x176 :: x177 :: x178 :: x179 :: x180 :: x181 :: x182 :: x183 :: x184 :: x185 :: x186 :: x187 :: x188 :: x189 :: x190 :: x191 :: x192 :: x193 :: x194 :: x195 :: x196 :: x197 :: x198 :: x199 :: x200 :: x201 :: x202 :: x203 :: x204 :: x205 :: x206 :: x207 :: x208 :: x209 :: x210 :: x211 :: x212 :: x213 :: x214 :: x215 :: x216 :: x217 :: x218 :: x219 :: x220 :: x221 :: x222 :: x223 :: x224 :: x225 :: x226 :: x227 :: x228 :: x229 :: x230 :: x231 :: x232 :: x233 :: x234 :: x235 :: x236 :: x237 :: x238 :: x239 :: x240 :: x241 :: x242 :: x243 :: x244 :: x245 :: x246 :: x247 :: x248 :: x249 :: x250 :: x251 :: x252 :: x253 :: x254 :: x255 :: x256 :: x257 :: x258 :: x259 :: x260 :: x261 :: x262 :: x263 :: x264 :: x265 :: x266 :: x267 :: x268 :: x269 :: x270 :: x271 :: x272 :: x273 :: x274 :: x275 :: x276 :: x277 :: x278 :: x279 :: x280 :: x281 :: x282 :: x283 :: x284 :: x285 :: x286 :: x287 :: x288 :: x289 :: x290 :: x291 :: x292 :: x293 :: x294 :: x295 :: x296 :: x297 :: x298 :: x299 :: x300 :: x301 :: x302 :: x303 :: x304 :: x305 :: x306 :: x307 :: x308 :: x309 :: x310 :: x311 :: x312 :: x313 :: x314 :: x315 :: x316 :: x317 :: x318 :: x319 :: x320 :: x321 :: x322 :: x323 :: x324 :: x325 :: x326 :: x327 :: x328 :: x329 :: []).toArray, []⟩) : ∀ a, Frm 330 [(0, v0), (2, v1), (3, v2), (4, v3), (5, v4), (6, v5), (7, v6)] a → P a := by
  rintro a ⟨h1, h2, e0, e1, e2, e3, e4, e5, e6, _⟩
  revert e0 e1 e2 e3 e4 e5 e6
  refine frame_tr (P := fun a => a.tmps.toList[0]? = some v0 → a.tmps.toList[2]? = some v1 → a.tmps.toList[3]? = some v2 → a.tmps.toList[4]? = some v3 → a.tmps.toList[5]? = some v4 → a.tmps.toList[6]? = some v5 → a.tmps.toList[7]? = some v6 → P a) ?_ a h1 h2
  intro x0 x1 x2 x3 x4 x5 x6 x7 x8 x9 x10 x11 x12 x13 x14 x15 x16 x17 x18 x19 x20 x21 x22 x23 x24 x25 x26 x27 x28 x29 x30 x31 x32 x33 x34 x35 x36 x37 x38 x39 x40 x41 x42 x43 x44 x45 x46 x47 x48 x49 x50 x51 x52 x53 x54 x55 x56 x57 x58 x59 x60 x61 x62 x63 x64 x65 x66 x67 x68 x69 x70 x71 x72 x73 x74 x75 x76 x77 x78 x79 x80 x81 x82 x83 x84 x85 x86 x87 x88 x89 x90 x91 x92 x93 x94 x95 x96 x97 x98 x99 x100 x101 x102 x103 x104 x105 x106 x107 x108 x109 x110 x111 x112 x113 x114 x115 x116 x117 x118 x119 x120 x121 x122 x123 x124 x125 x126 x127 x128 x129 x130 x131 x132 x133 x134 x135 x136 x137 x138 x139 x140 x141 x142 x143 x144 x145 x146 x147 x148 x149 x150 x151 x152 x153 x154 x155 x156 x157 x158 x159 x160 x161 x162 x163 x164 x165 x166 x167 x168 x169 x170 x171 x172 x173 x174 x175 x176 x177 x178 x179 x180 x181 x182 x183 x184 x185 x186 x187 x188 x189 x190 x191 x192 x193 x194 x195 x196 x197 x198 x199 x200 x201 x202 x203 x204 x205 x206 x207 x208 x209 x210 x211 x212 x213 x214 x215 x216 x217 x218 x219 x220 x221 x222 x223 x224 x225 x226 x227 x228 x229 x230 x231 x232 x233 x234 x235 x236 x237 x238 x239 x240 x241 x242 x243 x244 x245 x246 x247 x248 x249 x250 x251 x252 x253 x254 x255 x256 x257 x258 x259 x260 x261 x262 x263 x264 x265 x266 x267 x268 x269 x270 x271 x272 x273 x274 x275 x276 x277 x278 x279 x280 x281 x282 x283 x284 x285 x286 x287 x288 x289 x290 x291 x292 x293 x294 x295 x296 x297 x298 x299 x300 x301 x302 x303 x304 x305 x306 x307 x308 x309 x310 x311 x312 x313 x314 x315 x316 x317 x318 x319 x320 x321 x322 x323 x324 x325 x326 x327 x328 x329 e0 e1 e2 e3 e4 e5 e6
  obtain rfl : x0 = v0 := Option.some.inj e0
  obtain rfl : x2 = v1 := Option.some.inj e1
  obtain rfl : x3 = v2 := Option.some.inj e2
  obtain rfl : x4 = v3 := Option.some.inj e3
  obtain rfl : x5 = v4 := Option.some.inj e4
  obtain rfl : x6 = v5 := Option.some.inj e5
  obtain rfl : x7 = v6 := Option.some.inj e6
  exact h x1 x8 x9 x10 x11 x12 x13 x14 x15 x16 x17 x18 x19 x20 x21 x22 x23 x24 x25 x26 x27 x28 x29 x30 x31 x32 x33 x34 x35 x36 x37 x38 x39 x40 x41 x42 x43 x44 x45 x46 x47 x48 x49 x50 x51 x52 x53 x54 x55 x56 x57 x58 x59 x60 x61 x62 x63 x64 x65 x66 x67 x68 x69 x70 x71 x72 x73 x74 x75 x76 x77 x78 x79 x80 x81 x82 x83 x84 x85 x86 x87 x88 x89 x90 x91 x92 x93 x94 x95 x96 x97 x98 x99 x100 x101 x102 x103 x104 x105 x106 x107 x108 x109 x110 x111 x112 x113 x114 x115 x116 x117 x118 x119 x120 x121 x122 x123 x124 x125 x126 x127 x128 x129 x130 x131 x132 x133 x134 x135 x136 x137 x138 x139 x140 x141 x142 x143 x144 x145 x146 x147 x148 x149 x150 x151 x152 x153 x154 x155 x156 x157 x158 x159 x160 x161 x162 x163 x164 x165 x166 x167 x168 x169 x170 x171 x172 x173 x174 x175 x176 x177 x178 x179 x180 x181 x182 x183 x184 x185 x186 x187 x188 x189 x190 x191 x192 x193 x194 x195 x196 x197 x198 x199 x200 x201 x202 x203 x204 x205 x206 x207 x208 x209 x210 x211 x212 x213 x214 x215 x216 x217 x218 x219 x220 x221 x222 x223 x224 x225 x226 x227 x228 x229 x230 x231 x232 x233 x234 x235 x236 x237 x238 x239 x240 x241 x242 x243 x244 x245 x246 x247 x248 x249 x250 x251 x252 x253 x254 x255 x256 x257 x258 x259 x260 x261 x262 x263 x264 x265 x266 x267 x268 x269 x270 x271 x272 x273 x274 x275 x276 x277 x278 x279 x280 x281 x282 x283 x284 x285 x286 x287 x288 x289 x290 x291 x292 x293 x294 x295 x296 x297 x298 x299 x300 x301 x302 x303 x304 x305 x306 x307 x308 x309 x310 x311 x312 x313 x314 x315 x316 x317 x318 x319 x320 x321 x322 x323 x324 x325 x326 x327 x328 x329
set_option maxRecDepth 1000000 in
set_option maxHeartbeats 16000000 in
theorem tr_lim_wp {Q : Exit → Act → World → Prop} {x : ByteArray} {w wr : World} {frs : List F7} {Aq : Option Addr} {cq i n : Nat} (hz : (wr.heap[w.heap.size]? = some (.cells #[.int .i64 0, .string ⟨#[]⟩, .int .i64 0, .string ⟨#[]⟩, .slice none 0 0, .slice none 0 0] 27 (0, 0)) ∧ wr.heap[w.heap.size + 1]? = some (.cells #[.int .i64 0, .int .i64 0] 29 (0, 0)) ∧ wr.heap[w.heap.size + 2]? = some (.cells #[.int .i64 0, .string ⟨#[]⟩, .int .i64 0, .string ⟨#[]⟩, .slice none 0 0, .slice none 0 0] 27 (0, 0)))) (hB : Below w.heap.size w wr) (hR : 200 < n ∨ 40 ≤ frs.length → ∀ a' w', Frm 330 [(2, .pointer (some ⟨w.heap.size, 0, none⟩)), (3, .pointer (some ⟨w.heap.size + 1, 0, none⟩))] a' → w'.heap[w.heap.size]? = some (.cells #[.int .i64 0, .string ⟨#[]⟩, .int .i64 0, .string ⟨#[]⟩, .slice none 0 0, .slice none 0 0] 27 (0, 0)) → w'.heap[w.heap.size + 1]? = some (.cells #[.int .i64 1, .int .i64 (i : Nat)] 29 (0, 0)) → Below w.heap.size w w' → Q .ret a' w') (hN : ¬ (200 < n ∨ 40 ≤ frs.length) → ∀ a', Frm 330 [(0, .string x), (2, .pointer (some ⟨w.heap.size, 0, none⟩)), (3, .pointer (some ⟨w.heap.size + 1, 0, none⟩)), (4, .slice Aq frs.length cq), (5, .int .i64 (i : Nat)), (6, .int .i64 (n : Nat)), (7, .pointer (some ⟨w.heap.size + 2, 0, none⟩))] a' → Q .normal a' wr) : ∀ ac, Frm 330 [(0, .string x), (2, .pointer (some ⟨w.heap.size, 0, none⟩)), (3, .pointer (some ⟨w.heap.size + 1, 0, none⟩)), (4, .slice Aq frs.length cq), (5, .int .i64 (i : Nat)), (6, .int .i64 (n : Nat)), (7, .pointer (some ⟨w.heap.size + 2, 0, none⟩))] ac → Code.wp Tryd.prog c_tr_lim Q ac wr := by
  refine open_tr_lim (P := fun a => Code.wp Tryd.prog c_tr_lim Q a wr) ?_
  intro x1 x8 x9 x10 x11 x12 x13 x14 x15 x16 x17 x18 x19 x20 x21 x22 x23 x24 x25 x26 x27 x28 x29 x30 x31 x32 x33 x34 x35 x36 x37 x38 x39 x40 x41 x42 x43 x44 x45 x46 x47 x48 x49 x50 x51 x52 x53 x54 x55 x56 x57 x58 x59 x60 x61 x62 x63 x64 x65 x66 x67 x68 x69 x70 x71 x72 x73 x74 x75 x76 x77 x78 x79 x80 x81 x82 x83 x84 x85 x86 x87 x88 x89 x90 x91 x92 x93 x94 x95 x96 x97 x98 x99 x100 x101 x102 x103 x104 x105 x106 x107 x108 x109 x110 x111 x112 x113 x114 x115 x116 x117 x118 x119 x120 x121 x122 x123 x124 x125 x126 x127 x128 x129 x130 x131 x132 x133 x134 x135 x136 x137 x138 x139 x140 x141 x142 x143 x144 x145 x146 x147 x148 x149 x150 x151 x152 x153 x154 x155 x156 x157 x158 x159 x160 x161 x162 x163 x164 x165 x166 x167 x168 x169 x170 x171 x172 x173 x174 x175 x176 x177 x178 x179 x180 x181 x182 x183 x184 x185 x186 x187 x188 x189 x190 x191 x192 x193 x194 x195 x196 x197 x198 x199 x200 x201 x202 x203 x204 x205 x206 x207 x208 x209 x210 x211 x212 x213 x214 x215 x216 x217 x218 x219 x220 x221 x222 x223 x224 x225 x226 x227 x228 x229 x230 x231 x232 x233 x234 x235 x236 x237 x238 x239 x240 x241 x242 x243 x244 x245 x246 x247 x248 x249 x250 x251 x252 x253 x254 x255 x256 x257 x258 x259 x260 x261 x262 x263 x264 x265 x266 x267 x268 x269 x270 x271 x272 x273 x274 x275 x276 x277 x278 x279 x280 x281 x282 x283 x284 x285 x286 x287 x288 x289 x290 x291 x292 x293 x294 x295 x296 x297 x298 x299 x300 x301 x302 x303 x304 x305 x306 x307 x308 x309 x310 x311 x312 x313 x314 x315 x316 x317 x318 x319 x320 x321 x322 x323 x324 x325 x326 x327 x328 x329
  conv => arg 2; whnf
  have HR := Lib.hid hR
  have HN := Lib.hid hN
  clear hR hN
  obtain ⟨pz, pf, pn⟩ := hz
  have HB := Lib.hid hB
  clear hB
  have pz_0 := cv0 pz
  have pz_1 := cv1 pz
  have pz_2 := cv2 pz
  have pz_3 := cv3 pz
  have pz_4 := cv4 pz
  have pz_5 := cv5 pz
  have pz_f0 := free_heap pz 0
  have pz_f1 := free_heap pz 1
  have pz_f2 := free_heap pz 2
  have pz_f3 := free_heap pz 3
  have pz_f4 := free_heap pz 4
  have pz_f5 := free_heap pz 5
  have pz_l := lt_heap pz
  have PZ := Lib.hid pz
  clear pz
  have pf_0 := cv0 pf
  have pf_1 := cv1 pf
  have pf_f0 := free_heap pf 0
  have pf_f1 := free_heap pf 1
  have pf_l := lt_heap pf
  have PF := Lib.hid pf
  clear pf
  have pn_0 := cv0 pn
  have pn_1 := cv1 pn
  have pn_2 := cv2 pn
  have pn_3 := cv3 pn
  have pn_4 := cv4 pn
  have pn_5 := cv5 pn
  have pn_l := lt_heap pn
  have PN := Lib.hid pn
  clear pn
  by_cases h1 : 200 < n
  · have q1 : (200 : Int) < (n : Int) := by omega
    replace HR := Lib.hid (HR.out (Or.inl h1))
    go_wp2_with fail
    exact HR.out _ _ (id ⟨rfl, rfl, rfl, rfl, trivial⟩) (far2 (by omega) (at6 PZ.out)) (at2 (far6 (by omega) PF.out)) (below2 (below6 HB.out (Nat.le_refl _)) (by omega))
  have q1 : ¬ (200 : Int) < (n : Int) := by omega
  by_cases h2 : 40 ≤ frs.length
  · have q2 : (40 : Int) ≤ (frs.length : Int) := by omega
    replace HR := Lib.hid (HR.out (Or.inr h2))
    go_wp2_with fail
    exact HR.out _ _ (id ⟨rfl, rfl, rfl, rfl, trivial⟩) (far2 (by omega) (at6 PZ.out)) (at2 (far6 (by omega) PF.out)) (below2 (below6 HB.out (Nat.le_refl _)) (by omega))
  · have q2 : ¬ (40 : Int) ≤ (frs.length : Int) := by omega
    go_wp2_with fail
    exact HN.out (by omega) _ ⟨rfl, rfl, rfl, rfl, rfl, rfl, rfl, rfl, rfl, trivial⟩
noncomputable def c_tr_done : Code := sub [1, 1, 1, 1, 1, 0, 0, 0, 1, 1, 1, 0] (Tryd.f9.body.getD .skip)
set_option maxRecDepth 1000000 in
theorem open_tr_done {P : Act → Prop} {v0 v1 v2 v3 v4 v5 v6 : Value} (h : ∀ x1 x8 x9 x10 x11 x12 x13 x14 x15 x16 x17 x18 x19 x20 x21 x22 x23 x24 x25 x26 x27 x28 x29 x30 x31 x32 x33 x34 x35 x36 x37 x38 x39 x40 x41 x42 x43 x44 x45 x46 x47 x48 x49 x50 x51 x52 x53 x54 x55 x56 x57 x58 x59 x60 x61 x62 x63 x64 x65 x66 x67 x68 x69 x70 x71 x72 x73 x74 x75 x76 x77 x78 x79 x80 x81 x82 x83 x84 x85 x86 x87 x88 x89 x90 x91 x92 x93 x94 x95 x96 x97 x98 x99 x100 x101 x102 x103 x104 x105 x106 x107 x108 x109 x110 x111 x112 x113 x114 x115 x116 x117 x118 x119 x120 x121 x122 x123 x124 x125 x126 x127 x128 x129 x130 x131 x132 x133 x134 x135 x136 x137 x138 x139 x140 x141 x142 x143 x144 x145 x146 x147 x148 x149 x150 x151 x152 x153 x154 x155 x156 x157 x158 x159 x160 x161 x162 x163 x164 x165 x166 x167 x168 x169 x170 x171 x172 x173 x174 x175 x176 x177 x178 x179 x180 x181 x182 x183 x184 x185 x186 x187 x188 x189 x190 x191 x192 x193 x194 x195 x196 x197 x198 x199 x200 x201 x202 x203 x204 x205 x206 x207 x208 x209 x210 x211 x212 x213 x214 x215 x216 x217 x218 x219 x220 x221 x222 x223 x224 x225 x226 x227 x228 x229 x230 x231 x232 x233 x234 x235 x236 x237 x238 x239 x240 x241 x242 x243 x244 x245 x246 x247 x248 x249 x250 x251 x252 x253 x254 x255 x256 x257 x258 x259 x260 x261 x262 x263 x264 x265 x266 x267 x268 x269 x270 x271 x272 x273 x274 x275 x276 x277 x278 x279 x280 x281 x282 x283 x284 x285 x286 x287 x288 x289 x290 x291 x292 x293 x294 x295 x296 x297 x298 x299 x300 x301 x302 x303 x304 x305 x306 x307 x308 x309 x310 x311 x312 x313 x314 x315 x316 x317 x318 x319 x320 x321 x322 x323 x324 x325 x326 x327 x328 x329 : Value, P ⟨(v0 :: x1 :: v1 :: v2 :: v3 :: v4 :: v5 :: v6 :: x8 :: x9 :: x10 :: x11 :: x12 :: x13 :: x14 :: x15 :: x16 :: x17 :: x18 :: x19 :: x20 :: x21 :: x22 :: x23 :: x24 :: x25 :: x26 :: x27 :: x28 :: x29 :: x30 :: x31 :: x32 :: x33 :: x34 :: x35 :: x36 :: x37 :: x38 :: x39 :: x40 :: x41 :: x42 :: x43 :: x44 :: x45 :: x46 :: x47 :: x48 :: x49 :: x50 :: x51 :: x52 :: x53 :: x54 :: x55 :: x56 :: x57 :: x58 :: x59 :: x60 :: x61 :: x62 :: x63 :: x64 :: x65 :: x66 :: x67 :: x68 :: x69 :: x70 :: x71 :: x72 :: x73 :: x74 :: x75 :: x76 :: x77 :: x78 :: x79 :: x80 :: x81 :: x82 :: x83 :: x84 :: x85 :: x86 :: x87 :: x88 :: x89 :: x90 :: x91 :: x92 :: x93 :: x94 :: x95 :: x96 :: x97 :: x98 :: x99 :: x100 :: x101 :: x102 :: x103 :: x104 :: x105 :: x106 :: x107 :: x108 :: x109 :: x110 :: x111 :: x112 :: x113 :: x114 :: x115 :: x116 :: x117 :: x118 :: x119 :: x120 :: x121 :: x122 :: x123 :: x124 :: x125 :: x126 :: x127 :: x128 :: x129 :: x130 :: x131 :: x132 :: x133 :: x134 :: x135 :: x136 :: x137 :: x138 :: x139 :: x140 :: x141 :: x142 :: x143 :: x144 :: x145 :: x146 :: x147 :: x148 :: x149 :: x150 :: x151 :: x152 :: x153 :: x154 :: x155 :: x156 :: x157 :: x158 :: x159 :: x160 :: x161 :: x162 :: x163 :: x164 :: x165 :: x166 :: x167 :: x168 :: x169 :: x170 :: x171 :: x172 :: x173 :: x174 :: x175 :: x176 :: x177 :: x178 :: x179 :: x180 :: x181 :: x182 :: x183 :: x184 :: x185 :: x186 :: x187 :: x188 :: x189 :: x190 :: x191 :: x192 :: x193 :: x194 :: x195 :: x196 :: x197 :: x198 :: x199 :: x200 :: x201 :: x202 :: x203 :: x204 :: x205 :: x206 :: x207 :: x208 :: x209 :: x210 :: x211 :: x212 :: x213 :: x214 :: x215 :: x216 :: x217 :: x218 :: x219 :: x220 :: x221 :: x222 :: x223 :: x224 :: x225 :: x226 :: x227 :: x228 :: x229 :: x230 :: x231 :: x232 :: x233 :: x234 :: x235 :: x236 :: x237 :: x238 :: x239 :: x240 :: x241 :: x242 :: x243 :: x244 :: x245 :: x246 :: x247 :: x248 :: x249 :: x250 :: x251 :: x252 :: x253 :: x254 :: x255 :: x256 :: x257 :: x258 :: x259 :: x260 :: x261 :: x262 :: x263 :: x264 :: x265 :: x266 :: x267 :: x268 :: x269 :: x270 :: x271 :: x272 :: x273 :: x274 :: x275 :: x276 :: x277 :: x278 :: x279 :: x280 :: x281 :: x282 :: x283 :: x284 :: x285 :: x286 :: x287 :: x288 :: x289 :: x290 :: x291 :: x292 :: x293 :: x294 :: x295 :: x296 :: x297 :: x298 :: x299 :: x300 :: x301 :: x302 :: x303 :: x304 :: x305 :: x306 :: x307 :: x308 :: x309 :: x310 :: x311 :: x312 :: x313 :: x314 :: x315 :: x316 :: x317 :: x318 :: x319 :: x320 :: x321 :: x322 :: x323 :: x324 :: x325 :: x326 :: x327 :: x328 :: x329 :: []).toArray, []⟩) : ∀ a, Frm 330 [(0, v0), (2, v1), (3, v2), (4, v3), (5, v4), (6, v5), (7, v6)] a → P a := by
  rintro a ⟨h1, h2, e0, e1, e2, e3, e4, e5, e6, _⟩
  revert e0 e1 e2 e3 e4 e5 e6
  refine frame_tr (P := fun a => a.tmps.toList[0]? = some v0 → a.tmps.toList[2]? = some v1 → a.tmps.toList[3]? = some v2 → a.tmps.toList[4]? = some v3 → a.tmps.toList[5]? = some v4 → a.tmps.toList[6]? = some v5 → a.tmps.toList[7]? = some v6 → P a) ?_ a h1 h2
  intro x0 x1 x2 x3 x4 x5 x6 x7 x8 x9 x10 x11 x12 x13 x14 x15 x16 x17 x18 x19 x20 x21 x22 x23 x24 x25 x26 x27 x28 x29 x30 x31 x32 x33 x34 x35 x36 x37 x38 x39 x40 x41 x42 x43 x44 x45 x46 x47 x48 x49 x50 x51 x52 x53 x54 x55 x56 x57 x58 x59 x60 x61 x62 x63 x64 x65 x66 x67 x68 x69 x70 x71 x72 x73 x74 x75 x76 x77 x78 x79 x80 x81 x82 x83 x84 x85 x86 x87 x88 x89 x90 x91 x92 x93 x94 x95 x96 x97 x98 x99 x100 x101 x102 x103 x104 x105 x106 x107 x108 x109 x110 x111 x112 x113 x114 x115 x116 x117 x118 x119 x120 x121 x122 x123 x124 x125 x126 x127 x128 x129 x130 x131 x132 x133 x134 x135 x136 x137 x138 x139 x140 x141 x142 x143 x144 x145 x146 x147 x148 x149 x150 x151 x152 x153 x154 x155 x156 x157 x158 x159 x160 x161 x162 x163 x164 x165 x166 x167 x168 x169 x170 x171 x172 x173 x174 x175 x176 x177 x178 x179 x180 x181 x182 x183 x184 x185 x186 x187 x188 x189 x190 x191 x192 x193 x194 x195 x196 x197 x198 x199 x200 x201 x202 x203 x204 x205 x206 x207 x208 x209 x210 x211 x212 x213 x214 x215 x216 x217 x218 x219 x220 x221 x222 x223 x224 x225 x226 x227 x228 x229 x230 x231 x232 x233 x234 x235 x236 x237 x238 x239 x240 x241 x242 x243 x244 x245 x246 x247 x248 x249 x250 x251 x252 x253 x254 x255 x256 x257 x258 x259 x260 x261 x262 x263 x264 x265 x266 x267 x268 x269 x270 x271 x272 x273 x274 x275 x276 x277 x278 x279 x280 x281 x282 x283 x284 x285 x286 x287 x288 x289 x290 x291 x292 x293 x294 x295 x296 x297 x298 x299 x300 x301 x302 x303 x304 x305 x306 x307 x308 x309 x310 x311 x312 x313 x314 x315 x316 x317 x318 x319 x320 x321 x322 x323 x324 x325 x326 x327 x328 x329 e0 e1 e2 e3 e4 e5 e6
  obtain rfl : x0 = v0 := Option.some.inj e0
  obtain rfl : x2 = v1 := Option.some.inj e1
  obtain rfl : x3 = v2 := Option.some.inj e2
  obtain rfl : x4 = v3 := Option.some.inj e3
  obtain rfl : x5 = v4 := Option.some.inj e4
  obtain rfl : x6 = v5 := Option.some.inj e5
  obtain rfl : x7 = v6 := Option.some.inj e6
  exact h x1 x8 x9 x10 x11 x12 x13 x14 x15 x16 x17 x18 x19 x20 x21 x22 x23 x24 x25 x26 x27 x28 x29 x30 x31 x32 x33 x34 x35 x36 x37 x38 x39 x40 x41 x42 x43 x44 x45 x46 x47 x48 x49 x50 x51 x52 x53 x54 x55 x56 x57 x58 x59 x60 x61 x62 x63 x64 x65 x66 x67 x68 x69 x70 x71 x72 x73 x74 x75 x76 x77 x78 x79 x80 x81 x82 x83 x84 x85 x86 x87 x88 x89 x90 x91 x92 x93 x94 x95 x96 x97 x98 x99 x100 x101 x102 x103 x104 x105 x106 x107 x108 x109 x110 x111 x112 x113 x114 x115 x116 x117 x118 x119 x120 x121 x122 x123 x124 x125 x126 x127 x128 x129 x130 x131 x132 x133 x134 x135 x136 x137 x138 x139 x140 x141 x142 x143 x144 x145 x146 x147 x148 x149 x150 x151 x152 x153 x154 x155 x156 x157 x158 x159 x160 x161 x162 x163 x164 x165 x166 x167 x168 x169 x170 x171 x172 x173 x174 x175 x176 x177 x178 x179 x180 x181 x182 x183 x184 x185 x186 x187 x188 x189 x190 x191 x192 x193 x194 x195 x196 x197 x198 x199 x200 x201 x202 x203 x204 x205 x206 x207 x208 x209 x210 x211 x212 x213 x214 x215 x216 x217 x218 x219 x220 x221 x222 x223 x224 x225 x226 x227 x228 x229 x230 x231 x232 x233 x234 x235 x236 x237 x238 x239 x240 x241 x242 x243 x244 x245 x246 x247 x248 x249 x250 x251 x252 x253 x254 x255 x256 x257 x258 x259 x260 x261 x262 x263 x264 x265 x266 x267 x268 x269 x270 x271 x272 x273 x274 x275 x276 x277 x278 x279 x280 x281 x282 x283 x284 x285 x286 x287 x288 x289 x290 x291 x292 x293 x294 x295 x296 x297 x298 x299 x300 x301 x302 x303 x304 x305 x306 x307 x308 x309 x310 x311 x312 x313 x314 x315 x316 x317 x318 x319 x320 x321 x322 x323 x324 x325 x326 x327 x328 x329
set_option maxRecDepth 1000000 in
set_option maxHeartbeats 16000000 in
theorem tr_done_wp {Q : Exit → Act → World → Prop} {x : ByteArray} {w wr : World} {frs : List F7} {Aq : Option Addr} {cq i n : Nat} (hN : ∀ a', Frm 330 [(0, .string x), (2, .pointer (some ⟨w.heap.size, 0, none⟩)), (3, .pointer (some ⟨w.heap.size + 1, 0, none⟩)), (4, .slice Aq frs.length cq), (5, .int .i64 (i : Nat)), (6, .int .i64 (n : Nat)), (7, .pointer (some ⟨w.heap.size + 2, 0, none⟩)), (8, .pointer (some ⟨wr.heap.size, 0, none⟩))] a' → Q .normal a' (wr.alloc (.cells #[.int .i64 0, .string ⟨#[]⟩, .int .i64 0, .string ⟨#[]⟩, .slice none 0 0, .slice none 0 0] 27 (0, 0)))) : ∀ ac, Frm 330 [(0, .string x), (2, .pointer (some ⟨w.heap.size, 0, none⟩)), (3, .pointer (some ⟨w.heap.size + 1, 0, none⟩)), (4, .slice Aq frs.length cq), (5, .int .i64 (i : Nat)), (6, .int .i64 (n : Nat)), (7, .pointer (some ⟨w.heap.size + 2, 0, none⟩))] ac → Code.wp Tryd.prog c_tr_done Q ac wr := by
  refine open_tr_done (P := fun a => Code.wp Tryd.prog c_tr_done Q a wr) ?_
  intro x1 x8 x9 x10 x11 x12 x13 x14 x15 x16 x17 x18 x19 x20 x21 x22 x23 x24 x25 x26 x27 x28 x29 x30 x31 x32 x33 x34 x35 x36 x37 x38 x39 x40 x41 x42 x43 x44 x45 x46 x47 x48 x49 x50 x51 x52 x53 x54 x55 x56 x57 x58 x59 x60 x61 x62 x63 x64 x65 x66 x67 x68 x69 x70 x71 x72 x73 x74 x75 x76 x77 x78 x79 x80 x81 x82 x83 x84 x85 x86 x87 x88 x89 x90 x91 x92 x93 x94 x95 x96 x97 x98 x99 x100 x101 x102 x103 x104 x105 x106 x107 x108 x109 x110 x111 x112 x113 x114 x115 x116 x117 x118 x119 x120 x121 x122 x123 x124 x125 x126 x127 x128 x129 x130 x131 x132 x133 x134 x135 x136 x137 x138 x139 x140 x141 x142 x143 x144 x145 x146 x147 x148 x149 x150 x151 x152 x153 x154 x155 x156 x157 x158 x159 x160 x161 x162 x163 x164 x165 x166 x167 x168 x169 x170 x171 x172 x173 x174 x175 x176 x177 x178 x179 x180 x181 x182 x183 x184 x185 x186 x187 x188 x189 x190 x191 x192 x193 x194 x195 x196 x197 x198 x199 x200 x201 x202 x203 x204 x205 x206 x207 x208 x209 x210 x211 x212 x213 x214 x215 x216 x217 x218 x219 x220 x221 x222 x223 x224 x225 x226 x227 x228 x229 x230 x231 x232 x233 x234 x235 x236 x237 x238 x239 x240 x241 x242 x243 x244 x245 x246 x247 x248 x249 x250 x251 x252 x253 x254 x255 x256 x257 x258 x259 x260 x261 x262 x263 x264 x265 x266 x267 x268 x269 x270 x271 x272 x273 x274 x275 x276 x277 x278 x279 x280 x281 x282 x283 x284 x285 x286 x287 x288 x289 x290 x291 x292 x293 x294 x295 x296 x297 x298 x299 x300 x301 x302 x303 x304 x305 x306 x307 x308 x309 x310 x311 x312 x313 x314 x315 x316 x317 x318 x319 x320 x321 x322 x323 x324 x325 x326 x327 x328 x329
  conv => arg 2; whnf
  have HN := Lib.hid hN
  clear hN
  go_wp2_with fail
  exact HN.out _ (id ⟨rfl, rfl, rfl, rfl, rfl, rfl, rfl, rfl, rfl, rfl, trivial⟩)
noncomputable def c_tr_app : Code := sub [1, 1, 1, 1, 1, 0, 0, 0, 1, 1, 1, 1, 0] (Tryd.f9.body.getD .skip)
set_option maxRecDepth 1000000 in
theorem open_tr_app {P : Act → Prop} {v0 v1 v2 v3 v4 v5 v6 v7 : Value} (h : ∀ x1 x9 x10 x11 x12 x13 x14 x15 x16 x17 x18 x19 x20 x21 x22 x23 x24 x25 x26 x27 x28 x29 x30 x31 x32 x33 x34 x35 x36 x37 x38 x39 x40 x41 x42 x43 x44 x45 x46 x47 x48 x49 x50 x51 x52 x53 x54 x55 x56 x57 x58 x59 x60 x61 x62 x63 x64 x65 x66 x67 x68 x69 x70 x71 x72 x73 x74 x75 x76 x77 x78 x79 x80 x81 x82 x83 x84 x85 x86 x87 x88 x89 x90 x91 x92 x93 x94 x95 x96 x97 x98 x99 x100 x101 x102 x103 x104 x105 x106 x107 x108 x109 x110 x111 x112 x113 x114 x115 x116 x117 x118 x119 x120 x121 x122 x123 x124 x125 x126 x127 x128 x129 x130 x131 x132 x133 x134 x135 x136 x137 x138 x139 x140 x141 x142 x143 x144 x145 x146 x147 x148 x149 x150 x151 x152 x153 x154 x155 x156 x157 x158 x159 x160 x161 x162 x163 x164 x165 x166 x167 x168 x169 x170 x171 x172 x173 x174 x175 x176 x177 x178 x179 x180 x181 x182 x183 x184 x185 x186 x187 x188 x189 x190 x191 x192 x193 x194 x195 x196 x197 x198 x199 x200 x201 x202 x203 x204 x205 x206 x207 x208 x209 x210 x211 x212 x213 x214 x215 x216 x217 x218 x219 x220 x221 x222 x223 x224 x225 x226 x227 x228 x229 x230 x231 x232 x233 x234 x235 x236 x237 x238 x239 x240 x241 x242 x243 x244 x245 x246 x247 x248 x249 x250 x251 x252 x253 x254 x255 x256 x257 x258 x259 x260 x261 x262 x263 x264 x265 x266 x267 x268 x269 x270 x271 x272 x273 x274 x275 x276 x277 x278 x279 x280 x281 x282 x283 x284 x285 x286 x287 x288 x289 x290 x291 x292 x293 x294 x295 x296 x297 x298 x299 x300 x301 x302 x303 x304 x305 x306 x307 x308 x309 x310 x311 x312 x313 x314 x315 x316 x317 x318 x319 x320 x321 x322 x323 x324 x325 x326 x327 x328 x329 : Value, P ⟨(v0 :: x1 :: v1 :: v2 :: v3 :: v4 :: v5 :: v6 :: v7 :: x9 :: x10 :: x11 :: x12 :: x13 :: x14 :: x15 :: x16 :: x17 :: x18 :: x19 :: x20 :: x21 :: x22 :: x23 :: x24 :: x25 :: x26 :: x27 :: x28 :: x29 :: x30 :: x31 :: x32 :: x33 :: x34 :: x35 :: x36 :: x37 :: x38 :: x39 :: x40 :: x41 :: x42 :: x43 :: x44 :: x45 :: x46 :: x47 :: x48 :: x49 :: x50 :: x51 :: x52 :: x53 :: x54 :: x55 :: x56 :: x57 :: x58 :: x59 :: x60 :: x61 :: x62 :: x63 :: x64 :: x65 :: x66 :: x67 :: x68 :: x69 :: x70 :: x71 :: x72 :: x73 :: x74 :: x75 :: x76 :: x77 :: x78 :: x79 :: x80 :: x81 :: x82 :: x83 :: x84 :: x85 :: x86 :: x87 :: x88 :: x89 :: x90 :: x91 :: x92 :: x93 :: x94 :: x95 :: x96 :: x97 :: x98 :: x99 :: x100 :: x101 :: x102 :: x103 :: x104 :: x105 :: x106 :: x107 :: x108 :: x109 :: x110 :: x111 :: x112 :: x113 :: x114 :: x115 :: x116 :: x117 :: x118 :: x119 :: x120 :: x121 :: x122 :: x123 :: x124 :: x125 :: x126 :: x127 :: x128 :: x129 :: x130 :: x131 :: x132 :: x133 :: x134 :: x135 :: x136 :: x137 :: x138 :: x139 :: x140 :: x141 :: x142 :: x143 :: x144 :: x145 :: x146 :: x147 :: x148 :: x149 :: x150 :: x151 :: x152 :: x153 :: x154 :: x155 :: x156 :: x157 :: x158 :: x159 :: x160 :: x161 :: x162 :: x163 :: x164 :: x165 :: x166 :: x167 :: x168 :: x169 :: x170 :: x171 :: x172 :: x173 :: x174 :: x175 :: x176 :: x177 :: x178 :: x179 :: x180 :: x181 :: x182 :: x183 :: x184 :: x185 :: x186 :: x187 :: x188 :: x189 :: x190 :: x191 :: x192 :: x193 :: x194 :: x195 :: x196 :: x197 :: x198 :: x199 :: x200 :: x201 :: x202 :: x203 :: x204 :: x205 :: x206 :: x207 :: x208 :: x209 :: x210 :: x211 :: x212 :: x213 :: x214 :: x215 :: x216 :: x217 :: x218 :: x219 :: x220 :: x221 :: x222 :: x223 :: x224 :: x225 :: x226 :: x227 :: x228 :: x229 :: x230 :: x231 :: x232 :: x233 :: x234 :: x235 :: x236 :: x237 :: x238 :: x239 :: x240 :: x241 :: x242 :: x243 :: x244 :: x245 :: x246 :: x247 :: x248 :: x249 :: x250 :: x251 :: x252 :: x253 :: x254 :: x255 :: x256 :: x257 :: x258 :: x259 :: x260 :: x261 :: x262 :: x263 :: x264 :: x265 :: x266 :: x267 :: x268 :: x269 :: x270 :: x271 :: x272 :: x273 :: x274 :: x275 :: x276 :: x277 :: x278 :: x279 :: x280 :: x281 :: x282 :: x283 :: x284 :: x285 :: x286 :: x287 :: x288 :: x289 :: x290 :: x291 :: x292 :: x293 :: x294 :: x295 :: x296 :: x297 :: x298 :: x299 :: x300 :: x301 :: x302 :: x303 :: x304 :: x305 :: x306 :: x307 :: x308 :: x309 :: x310 :: x311 :: x312 :: x313 :: x314 :: x315 :: x316 :: x317 :: x318 :: x319 :: x320 :: x321 :: x322 :: x323 :: x324 :: x325 :: x326 :: x327 :: x328 :: x329 :: []).toArray, []⟩) : ∀ a, Frm 330 [(0, v0), (2, v1), (3, v2), (4, v3), (5, v4), (6, v5), (7, v6), (8, v7)] a → P a := by
  rintro a ⟨h1, h2, e0, e1, e2, e3, e4, e5, e6, e7, _⟩
  revert e0 e1 e2 e3 e4 e5 e6 e7
  refine frame_tr (P := fun a => a.tmps.toList[0]? = some v0 → a.tmps.toList[2]? = some v1 → a.tmps.toList[3]? = some v2 → a.tmps.toList[4]? = some v3 → a.tmps.toList[5]? = some v4 → a.tmps.toList[6]? = some v5 → a.tmps.toList[7]? = some v6 → a.tmps.toList[8]? = some v7 → P a) ?_ a h1 h2
  intro x0 x1 x2 x3 x4 x5 x6 x7 x8 x9 x10 x11 x12 x13 x14 x15 x16 x17 x18 x19 x20 x21 x22 x23 x24 x25 x26 x27 x28 x29 x30 x31 x32 x33 x34 x35 x36 x37 x38 x39 x40 x41 x42 x43 x44 x45 x46 x47 x48 x49 x50 x51 x52 x53 x54 x55 x56 x57 x58 x59 x60 x61 x62 x63 x64 x65 x66 x67 x68 x69 x70 x71 x72 x73 x74 x75 x76 x77 x78 x79 x80 x81 x82 x83 x84 x85 x86 x87 x88 x89 x90 x91 x92 x93 x94 x95 x96 x97 x98 x99 x100 x101 x102 x103 x104 x105 x106 x107 x108 x109 x110 x111 x112 x113 x114 x115 x116 x117 x118 x119 x120 x121 x122 x123 x124 x125 x126 x127 x128 x129 x130 x131 x132 x133 x134 x135 x136 x137 x138 x139 x140 x141 x142 x143 x144 x145 x146 x147 x148 x149 x150 x151 x152 x153 x154 x155 x156 x157 x158 x159 x160 x161 x162 x163 x164 x165 x166 x167 x168 x169 x170 x171 x172 x173 x174 x175 x176 x177 x178 x179 x180 x181 x182 x183 x184 x185 x186 x187 x188 x189 x190 x191 x192 x193 x194 x195 x196 x197 x198 x199 x200 x201 x202 x203 x204 x205 x206 x207 x208 x209 x210 x211 x212 x213 x214 x215 x216 x217 x218 x219 x220 x221 x222 x223 x224 x225 x226 x227 x228 x229 x230 x231 x232 x233 x234 x235 x236 x237 x238 x239 x240 x241 x242 x243 x244 x245 x246 x247 x248 x249 x250 x251 x252 x253 x254 x255 x256 x257 x258 x259 x260 x261 x262 x263 x264 x265 x266 x267 x268 x269 x270 x271 x272 x273 x274 x275 x276 x277 x278 x279 x280 x281 x282 x283 x284 x285 x286 x287 x288 x289 x290 x291 x292 x293 x294 x295 x296 x297 x298 x299 x300 x301 x302 x303 x304 x305 x306 x307 x308 x309 x310 x311 x312 x313 x314 x315 x316 x317 x318 x319 x320 x321 x322 x323 x324 x325 x326 x327 x328 x329 e0 e1 e2 e3 e4 e5 e6 e7
  obtain rfl : x0 = v0 := Option.some.inj e0
  obtain rfl : x2 = v1 := Option.some.inj e1
  obtain rfl : x3 = v2 := Option.some.inj e2
  obtain rfl : x4 = v3 := Option.some.inj e3
  obtain rfl : x5 = v4 := Option.some.inj e4
  obtain rfl : x6 = v5 := Option.some.inj e5
  obtain rfl : x7 = v6 := Option.some.inj e6
  obtain rfl : x8 = v7 := Option.some.inj e7
  exact h x1 x9 x10 x11 x12 x13 x14 x15 x16 x17 x18 x19 x20 x21 x22 x23 x24 x25 x26 x27 x28 x29 x30 x31 x32 x33 x34 x35 x36 x37 x38 x39 x40 x41 x42 x43 x44 x45 x46 x47 x48 x49 x50 x51 x52 x53 x54 x55 x56 x57 x58 x59 x60 x61 x62 x63 x64 x65 x66 x67 x68 x69 x70 x71 x72 x73 x74 x75 x76 x77 x78 x79 x80 x81 x82 x83 x84 x85 x86 x87 x88 x89 x90 x91 x92 x93 x94 x95 x96 x97 x98 x99 x100 x101 x102 x103 x104 x105 x106 x107 x108 x109 x110 x111 x112 x113 x114 x115 x116 x117 x118 x119 x120 x121 x122 x123 x124 x125 x126 x127 x128 x129 x130 x131 x132 x133 x134 x135 x136 x137 x138 x139 x140 x141 x142 x143 x144 x145 x146 x147 x148 x149 x150 x151 x152 x153 x154 x155 x156 x157 x158 x159 x160 x161 x162 x163 x164 x165 x166 x167 x168 x169 x170 x171 x172 x173 x174 x175 x176 x177 x178 x179 x180 x181 x182 x183 x184 x185 x186 x187 x188 x189 x190 x191 x192 x193 x194 x195 x196 x197 x198 x199 x200 x201 x202 x203 x204 x205 x206 x207 x208 x209 x210 x211 x212 x213 x214 x215 x216 x217 x218 x219 x220 x221 x222 x223 x224 x225 x226 x227 x228 x229 x230 x231 x232 x233 x234 x235 x236 x237 x238 x239 x240 x241 x242 x243 x244 x245 x246 x247 x248 x249 x250 x251 x252 x253 x254 x255 x256 x257 x258 x259 x260 x261 x262 x263 x264 x265 x266 x267 x268 x269 x270 x271 x272 x273 x274 x275 x276 x277 x278 x279 x280 x281 x282 x283 x284 x285 x286 x287 x288 x289 x290 x291 x292 x293 x294 x295 x296 x297 x298 x299 x300 x301 x302 x303 x304 x305 x306 x307 x308 x309 x310 x311 x312 x313 x314 x315 x316 x317 x318 x319 x320 x321 x322 x323 x324 x325 x326 x327 x328 x329
set_option maxRecDepth 1000000 in
set_option maxHeartbeats 16000000 in
theorem tr_app_wp {Q : Exit → Act → World → Prop} {x : ByteArray} {w : World} {frs : List F7} {Aq : Option Addr} {cq i n : Nat} {wo : World} {D : Nat} (hx4 : x.size ≤ 4000) (hi : i < x.size) (hn : n ≤ 1000) (hl : frs.length ≤ 39) (hm : TMem w wo frs Aq cq (D)) (hD : D < wo.heap.size) (hblk : ∀ b, (Value.slice Aq frs.length cq).ownBlock = some b → w.heap.size + 3 ≤ b ∧ b < D) (hX : byteAt x i = 40 → ∀ (gg cap : Nat) a' w', Frm 330 [(0, .string x), (2, .pointer (some ⟨w.heap.size, 0, none⟩)), (3, .pointer (some ⟨w.heap.size + 1, 0, none⟩)), (4, .slice (some ⟨gg, 0, none⟩) (frs.length + 1) cap), (5, .int .i64 (i + 1 : Nat)), (6, .int .i64 (n : Nat)), (7, .pointer (some ⟨w.heap.size + 2, 0, none⟩))] a' → TMem w w' (⟨.app0, .string ⟨#[]⟩, .slice none 0 0, .slice none 0 0⟩ :: frs) (some ⟨gg, 0, none⟩) cap w'.heap.size → Q (.exit 1) a' w') (hN : byteAt x i ≠ 40 → ∀ a', Frm 330 [(0, .string x), (2, .pointer (some ⟨w.heap.size, 0, none⟩)), (3, .pointer (some ⟨w.heap.size + 1, 0, none⟩)), (4, .slice Aq frs.length cq), (5, .int .i64 (i : Nat)), (6, .int .i64 (n : Nat)), (7, .pointer (some ⟨w.heap.size + 2, 0, none⟩)), (8, .pointer (some ⟨D, 0, none⟩))] a' → Q .normal a' wo) : ∀ ac, Frm 330 [(0, .string x), (2, .pointer (some ⟨w.heap.size, 0, none⟩)), (3, .pointer (some ⟨w.heap.size + 1, 0, none⟩)), (4, .slice Aq frs.length cq), (5, .int .i64 (i : Nat)), (6, .int .i64 (n : Nat)), (7, .pointer (some ⟨w.heap.size + 2, 0, none⟩)), (8, .pointer (some ⟨D, 0, none⟩))] ac → Code.wp Tryd.prog c_tr_app Q ac wo := by
  refine open_tr_app (P := fun a => Code.wp Tryd.prog c_tr_app Q a wo) ?_
  intro x1 x9 x10 x11 x12 x13 x14 x15 x16 x17 x18 x19 x20 x21 x22 x23 x24 x25 x26 x27 x28 x29 x30 x31 x32 x33 x34 x35 x36 x37 x38 x39 x40 x41 x42 x43 x44 x45 x46 x47 x48 x49 x50 x51 x52 x53 x54 x55 x56 x57 x58 x59 x60 x61 x62 x63 x64 x65 x66 x67 x68 x69 x70 x71 x72 x73 x74 x75 x76 x77 x78 x79 x80 x81 x82 x83 x84 x85 x86 x87 x88 x89 x90 x91 x92 x93 x94 x95 x96 x97 x98 x99 x100 x101 x102 x103 x104 x105 x106 x107 x108 x109 x110 x111 x112 x113 x114 x115 x116 x117 x118 x119 x120 x121 x122 x123 x124 x125 x126 x127 x128 x129 x130 x131 x132 x133 x134 x135 x136 x137 x138 x139 x140 x141 x142 x143 x144 x145 x146 x147 x148 x149 x150 x151 x152 x153 x154 x155 x156 x157 x158 x159 x160 x161 x162 x163 x164 x165 x166 x167 x168 x169 x170 x171 x172 x173 x174 x175 x176 x177 x178 x179 x180 x181 x182 x183 x184 x185 x186 x187 x188 x189 x190 x191 x192 x193 x194 x195 x196 x197 x198 x199 x200 x201 x202 x203 x204 x205 x206 x207 x208 x209 x210 x211 x212 x213 x214 x215 x216 x217 x218 x219 x220 x221 x222 x223 x224 x225 x226 x227 x228 x229 x230 x231 x232 x233 x234 x235 x236 x237 x238 x239 x240 x241 x242 x243 x244 x245 x246 x247 x248 x249 x250 x251 x252 x253 x254 x255 x256 x257 x258 x259 x260 x261 x262 x263 x264 x265 x266 x267 x268 x269 x270 x271 x272 x273 x274 x275 x276 x277 x278 x279 x280 x281 x282 x283 x284 x285 x286 x287 x288 x289 x290 x291 x292 x293 x294 x295 x296 x297 x298 x299 x300 x301 x302 x303 x304 x305 x306 x307 x308 x309 x310 x311 x312 x313 x314 x315 x316 x317 x318 x319 x320 x321 x322 x323 x324 x325 x326 x327 x328 x329
  conv => arg 2; whnf
  have HX := Lib.hid hX
  have HN := Lib.hid hN
  clear hX hN
  obtain ⟨ti, hti, htz0, htz1, htz2⟩ := info_parts infoFrame
  have hbz := FsOk.base hm.fs
  obtain ⟨hown, hfrs, ⟨pz, pf, pn⟩, hB⟩ := hm
  have HOWN := Lib.hid hown
  have HFRS := Lib.hid hfrs
  have HB := Lib.hid hB
  have HBLK := Lib.hid hblk
  clear hown hfrs hB hblk
  have pz_0 := cv0 pz
  have pz_1 := cv1 pz
  have pz_2 := cv2 pz
  have pz_3 := cv3 pz
  have pz_4 := cv4 pz
  have pz_5 := cv5 pz
  have pz_f0 := free_heap pz 0
  have pz_f1 := free_heap pz 1
  have pz_f2 := free_heap pz 2
  have pz_f3 := free_heap pz 3
  have pz_f4 := free_heap pz 4
  have pz_f5 := free_heap pz 5
  have pz_l := lt_heap pz
  have PZ := Lib.hid pz
  clear pz
  have pf_0 := cv0 pf
  have pf_1 := cv1 pf
  have pf_f0 := free_heap pf 0
  have pf_f1 := free_heap pf 1
  have pf_l := lt_heap pf
  have PF := Lib.hid pf
  clear pf
  have pn_0 := cv0 pn
  have pn_1 := cv1 pn
  have pn_2 := cv2 pn
  have pn_3 := cv3 pn
  have pn_4 := cv4 pn
  have pn_5 := cv5 pn
  have pn_l := lt_heap pn
  have PN := Lib.hid pn
  clear pn
  have hba : byteAt x i = (x[i]'hi).toNat := byteAt_in hi
  by_cases h40 : byteAt x i = 40
  case neg =>
    have t1 : ((((x[i]'hi).toNat : Nat) : Int) == 40) = false := beq_eq_false_iff_ne.2 (by omega)
    replace HN := Lib.hid (HN.out h40)
    clear h40 hba
    go_wp2_with fail
    exact HN.out _ (id ⟨rfl, rfl, rfl, rfl, rfl, rfl, rfl, rfl, rfl, rfl, trivial⟩)
  have t1 : ((((x[i]'hi).toNat : Nat) : Int) == 40) = true := by rw [← hba, h40]; rfl
  replace HX := Lib.hid (HX.out h40)
  have hi1 : ((i : Int) + 1) = ((i + 1 : Nat) : Int) := by omega
  have hl1 : ((frs.length : Int) + 1) = ((frs.length + 1 : Nat) : Int) := by omega
  have HI1 := Lib.hid hi1
  clear hba h40 hi1
  go_wp2_with (at_builtin; refine wpList_append_lies (wo.alloc (.cells #[.int .i64 4, .string ⟨#[]⟩, .int .i64 0, .string ⟨#[]⟩, .slice none 0 0, .slice none 0 0, .int .i64 2] 55)) ?h1 (.tmp 80) (.tmp 83) 53 ?h2 (w.heap.size + 3) 55 ti (.agg #[.int .i64 0, .string ⟨#[]⟩, .int .i64 0, .string ⟨#[]⟩, .slice none 0 0, .slice none 0 0, .int .i64 0]) 7 104 ?h3 hti htz0 htz1 htz2 ?h4 ?h5 (.slice Aq frs.length cq) frs.length (f7Cells frs) ?h6 ?h7 ⟨wo.heap.size, 0, none⟩ 1 1 [.int .i64 4, .string ⟨#[]⟩, .int .i64 0, .string ⟨#[]⟩, .slice none 0 0, .slice none 0 0, .int .i64 2] ?h8 ?h9 ?h10 ?h11 ?h12 ?h13 ?h14 ?h15 (wo.heap.size + 1) ?h16 ?_)
  try (case h1 => rfl)
  try (case h2 => rfl)
  try (case h3 => exact Tryd.underlying53)
  try (case h4 => rfl)
  try (case h5 => omega)
  try (case h6 => rfl)
  try (case h7 => exact HOWN.out.alloc _)
  try (case h8 => rfl)
  try (case h9 => rfl)
  try (case h10 => exact World.news_of_block (cs := #[.int .i64 4, .string ⟨#[]⟩, .int .i64 0, .string ⟨#[]⟩, .slice none 0 0, .slice none 0 0, .int .i64 2]) (t := 55) (fr := (0, 0)) (heap_alloc_new wo _))
  try (case h11 => simp [Value.oneCell'])
  try (case h12 => omega)
  try (case h13 => first | (simp [maxLen]; omega) | (unfold maxLen; omega))
  try (case h14 => omega)
  try (case h15 => first | omega | (simp; omega))
  try (case h16 => first | rfl | simp)
  intro gg cap w6 hown3 hgrow hat hlt
  have z6 : wo.heap.size + 1 ≤ w6.heap.size := by have := hgrow.size; simpa using this
  have HOWN3 := Lib.hid hown3
  have HGROW := Lib.hid hgrow
  have HAT := Lib.hid hat
  clear hown3 hgrow hat
  go_wp2_with fail
  rw [HI1.out]
  refine HX.out gg cap _ _ (id ⟨rfl, rfl, rfl, rfl, rfl, rfl, rfl, rfl, rfl, trivial⟩) ?_
  have hkeep : ∀ b, b < wo.heap.size → (Value.slice Aq frs.length cq).ownBlock ≠ some b → w6.heap[b]? = wo.heap[b]? := fun b hb hne => (HGROW.out.block b (by simp; omega) (fun e => hne e.symm)).trans (heap_old hb rfl)
  refine ⟨?_, ?_, ⟨?_, ?_, ?_⟩, ?_⟩
  · rw [f7Cells_cons]; exact HOWN3.out
  · refine FsOk.push0 (HFRS.out.keep (fun b h1 h2 h3 => hkeep b (by omega) h3) (fun b hb e => ?_) (by omega))
    rcases HAT.out with h | h
    · rw [h]; exact e
    · simp only [Value.ownBlock, Option.some.injEq] at e; omega
  · exact (hkeep _ (by omega) (fun e => by have := HBLK.out _ e; omega)).trans PZ.out
  · exact (hkeep _ (by omega) (fun e => by have := HBLK.out _ e; omega)).trans PF.out
  · exact (hkeep _ (by omega) (fun e => by have := HBLK.out _ e; omega)).trans PN.out
  · exact (HB.out.alloc (by omega) _).grown HGROW.out (by simp; omega) (fun k hk => by have := HBLK.out k hk; omega)
noncomputable def c_tr_abs : Code := sub [1, 1, 1, 1, 1, 0, 0, 0, 1, 1, 1, 1, 1, 0] (Tryd.f9.body.getD .skip)
set_option maxRecDepth 1000000 in
theorem open_tr_abs {P : Act → Prop} {v0 v1 v2 v3 v4 v5 v6 v7 : Value} (h : ∀ x1 x9 x10 x11 x12 x13 x14 x15 x16 x17 x18 x19 x20 x21 x22 x23 x24 x25 x26 x27 x28 x29 x30 x31 x32 x33 x34 x35 x36 x37 x38 x39 x40 x41 x42 x43 x44 x45 x46 x47 x48 x49 x50 x51 x52 x53 x54 x55 x56 x57 x58 x59 x60 x61 x62 x63 x64 x65 x66 x67 x68 x69 x70 x71 x72 x73 x74 x75 x76 x77 x78 x79 x80 x81 x82 x83 x84 x85 x86 x87 x88 x89 x90 x91 x92 x93 x94 x95 x96 x97 x98 x99 x100 x101 x102 x103 x104 x105 x106 x107 x108 x109 x110 x111 x112 x113 x114 x115 x116 x117 x118 x119 x120 x121 x122 x123 x124 x125 x126 x127 x128 x129 x130 x131 x132 x133 x134 x135 x136 x137 x138 x139 x140 x141 x142 x143 x144 x145 x146 x147 x148 x149 x150 x151 x152 x153 x154 x155 x156 x157 x158 x159 x160 x161 x162 x163 x164 x165 x166 x167 x168 x169 x170 x171 x172 x173 x174 x175 x176 x177 x178 x179 x180 x181 x182 x183 x184 x185 x186 x187 x188 x189 x190 x191 x192 x193 x194 x195 x196 x197 x198 x199 x200 x201 x202 x203 x204 x205 x206 x207 x208 x209 x210 x211 x212 x213 x214 x215 x216 x217 x218 x219 x220 x221 x222 x223 x224 x225 x226 x227 x228 x229 x230 x231 x232 x233 x234 x235 x236 x237 x238 x239 x240 x241 x242 x243 x244 x245 x246 x247 x248 x249 x250 x251 x252 x253 x254 x255 x256 x257 x258 x259 x260 x261 x262 x263 x264 x265 x266 x267 x268 x269 x270 x271 x272 x273 x274 x275 x276 x277 x278 x279 x280 x281 x282 x283 x284 x285 x286 x287 x288 x289 x290 x291 x292 x293 x294 x295 x296 x297 x298 x299 x300 x301 x302 x303 x304 x305 x306 x307 x308 x309 x310 x311 x312 x313 x314 x315 x316 x317 x318 x319 x320 x321 x322 x323 x324 x325 x326 x327 x328 x329 : Value, P ⟨(v0 :: x1 :: v1 :: v2 :: v3 :: v4 :: v5 :: v6 :: v7 :: x9 :: x10 :: x11 :: x12 :: x13 :: x14 :: x15 :: x16 :: x17 :: x18 :: x19 :: x20 :: x21 :: x22 :: x23 :: x24 :: x25 :: x26 :: x27 :: x28 :: x29 :: x30 :: x31 :: x32 :: x33 :: x34 :: x35 :: x36 :: x37 :: x38 :: x39 :: x40 :: x41 :: x42 :: x43 :: x44 :: x45 :: x46 :: x47 :: x48 :: x49 :: x50 :: x51 :: x52 :: x53 :: x54 :: x55 :: x56 :: x57 :: x58 :: x59 :: x60 :: x61 :: x62 :: x63 :: x64 :: x65 :: x66 :: x67 :: x68 :: x69 :: x70 :: x71 :: x72 :: x73 :: x74 :: x75 :: x76 :: x77 :: x78 :: x79 :: x80 :: x81 :: x82 :: x83 :: x84 :: x85 :: x86 :: x87 :: x88 :: x89 :: x90 :: x91 :: x92 :: x93 :: x94 :: x95 :: x96 :: x97 :: x98 :: x99 :: x100 :: x101 :: x102 :: x103 :: x104 :: x105 :: x106 :: x107 :: x108 :: x109 :: x110 :: x111 :: x112 :: x113 :: x114 :: x115 :: x116 :: x117 :: x118 :: x119 :: x120 :: x121 :: x122 :: x123 :: x124 :: x125 :: x126 :: x127 :: x128 :: x129 :: x130 :: x131 :: x132 :: x133 :: x134 :: x135 :: x136 :: x137 :: x138 :: x139 :: x140 :: x141 :: x142 :: x143 :: x144 :: x145 :: x146 :: x147 :: x148 :: x149 :: x150 :: x151 :: x152 :: x153 :: x154 :: x155 :: x156 :: x157 :: x158 :: x159 :: x160 :: x161 :: x162 :: x163 :: x164 :: x165 :: x166 :: x167 :: x168 :: x169 :: x170 :: x171 :: x172 :: x173 :: x174 :: x175 :: x176 :: x177 :: x178 :: x179 :: x180 :: x181 :: x182 :: x183 :: x184 :: x185 :: x186 :: x187 :: x188 :: x189 :: x190 :: x191 :: x192 :: x193 :: x194 :: x195 :: x196 :: x197 :: x198 :: x199 :: x200 :: x201 :: x202 :: x203 :: x204 :: x205 :: x206 :: x207 :: x208 :: x209 :: x210 :: x211 :: x212 :: x213 :: x214 :: x215 :: x216 :: x217 :: x218 :: x219 :: x220 :: x221 :: x222 :: x223 :: x224 :: x225 :: x226 :: x227 :: x228 :: x229 :: x230 :: x231 :: x232 :: x233 :: x234 :: x235 :: x236 :: x237 :: x238 :: x239 :: x240 :: x241 :: x242 :: x243 :: x244 :: x245 :: x246 :: x247 :: x248 :: x249 :: x250 :: x251 :: x252 :: x253 :: x254 :: x255 :: x256 :: x257 :: x258 :: x259 :: x260 :: x261 :: x262 :: x263 :: x264 :: x265 :: x266 :: x267 :: x268 :: x269 :: x270 :: x271 :: x272 :: x273 :: x274 :: x275 :: x276 :: x277 :: x278 :: x279 :: x280 :: x281 :: x282 :: x283 :: x284 :: x285 :: x286 :: x287 :: x288 :: x289 :: x290 :: x291 :: x292 :: x293 :: x294 :: x295 :: x296 :: x297 :: x298 :: x299 :: x300 :: x301 :: x302 :: x303 :: x304 :: x305 :: x306 :: x307 :: x308 :: x309 :: x310 :: x311 :: x312 :: x313 :: x314 :: x315 :: x316 :: x317 :: x318 :: x319 :: x320 :: x321 :: x322 :: x323 :: x324 :: x325 :: x326 :: x327 :: x328 :: x329 :: []).toArray, []⟩) : ∀ a, Frm 330 [(0, v0), (2, v1), (3, v2), (4, v3), (5, v4), (6, v5), (7, v6), (8, v7)] a → P a := by
  rintro a ⟨h1, h2, e0, e1, e2, e3, e4, e5, e6, e7, _⟩
  revert e0 e1 e2 e3 e4 e5 e6 e7
  refine frame_tr (P := fun a => a.tmps.toList[0]? = some v0 → a.tmps.toList[2]? = some v1 → a.tmps.toList[3]? = some v2 → a.tmps.toList[4]? = some v3 → a.tmps.toList[5]? = some v4 → a.tmps.toList[6]? = some v5 → a.tmps.toList[7]? = some v6 → a.tmps.toList[8]? = some v7 → P a) ?_ a h1 h2
  intro x0 x1 x2 x3 x4 x5 x6 x7 x8 x9 x10 x11 x12 x13 x14 x15 x16 x17 x18 x19 x20 x21 x22 x23 x24 x25 x26 x27 x28 x29 x30 x31 x32 x33 x34 x35 x36 x37 x38 x39 x40 x41 x42 x43 x44 x45 x46 x47 x48 x49 x50 x51 x52 x53 x54 x55 x56 x57 x58 x59 x60 x61 x62 x63 x64 x65 x66 x67 x68 x69 x70 x71 x72 x73 x74 x75 x76 x77 x78 x79 x80 x81 x82 x83 x84 x85 x86 x87 x88 x89 x90 x91 x92 x93 x94 x95 x96 x97 x98 x99 x100 x101 x102 x103 x104 x105 x106 x107 x108 x109 x110 x111 x112 x113 x114 x115 x116 x117 x118 x119 x120 x121 x122 x123 x124 x125 x126 x127 x128 x129 x130 x131 x132 x133 x134 x135 x136 x137 x138 x139 x140 x141 x142 x143 x144 x145 x146 x147 x148 x149 x150 x151 x152 x153 x154 x155 x156 x157 x158 x159 x160 x161 x162 x163 x164 x165 x166 x167 x168 x169 x170 x171 x172 x173 x174 x175 x176 x177 x178 x179 x180 x181 x182 x183 x184 x185 x186 x187 x188 x189 x190 x191 x192 x193 x194 x195 x196 x197 x198 x199 x200 x201 x202 x203 x204 x205 x206 x207 x208 x209 x210 x211 x212 x213 x214 x215 x216 x217 x218 x219 x220 x221 x222 x223 x224 x225 x226 x227 x228 x229 x230 x231 x232 x233 x234 x235 x236 x237 x238 x239 x240 x241 x242 x243 x244 x245 x246 x247 x248 x249 x250 x251 x252 x253 x254 x255 x256 x257 x258 x259 x260 x261 x262 x263 x264 x265 x266 x267 x268 x269 x270 x271 x272 x273 x274 x275 x276 x277 x278 x279 x280 x281 x282 x283 x284 x285 x286 x287 x288 x289 x290 x291 x292 x293 x294 x295 x296 x297 x298 x299 x300 x301 x302 x303 x304 x305 x306 x307 x308 x309 x310 x311 x312 x313 x314 x315 x316 x317 x318 x319 x320 x321 x322 x323 x324 x325 x326 x327 x328 x329 e0 e1 e2 e3 e4 e5 e6 e7
  obtain rfl : x0 = v0 := Option.some.inj e0
  obtain rfl : x2 = v1 := Option.some.inj e1
  obtain rfl : x3 = v2 := Option.some.inj e2
  obtain rfl : x4 = v3 := Option.some.inj e3
  obtain rfl : x5 = v4 := Option.some.inj e4
  obtain rfl : x6 = v5 := Option.some.inj e5
  obtain rfl : x7 = v6 := Option.some.inj e6
  obtain rfl : x8 = v7 := Option.some.inj e7
  exact h x1 x9 x10 x11 x12 x13 x14 x15 x16 x17 x18 x19 x20 x21 x22 x23 x24 x25 x26 x27 x28 x29 x30 x31 x32 x33 x34 x35 x36 x37 x38 x39 x40 x41 x42 x43 x44 x45 x46 x47 x48 x49 x50 x51 x52 x53 x54 x55 x56 x57 x58 x59 x60 x61 x62 x63 x64 x65 x66 x67 x68 x69 x70 x71 x72 x73 x74 x75 x76 x77 x78 x79 x80 x81 x82 x83 x84 x85 x86 x87 x88 x89 x90 x91 x92 x93 x94 x95 x96 x97 x98 x99 x100 x101 x102 x103 x104 x105 x106 x107 x108 x109 x110 x111 x112 x113 x114 x115 x116 x117 x118 x119 x120 x121 x122 x123 x124 x125 x126 x127 x128 x129 x130 x131 x132 x133 x134 x135 x136 x137 x138 x139 x140 x141 x142 x143 x144 x145 x146 x147 x148 x149 x150 x151 x152 x153 x154 x155 x156 x157 x158 x159 x160 x161 x162 x163 x164 x165 x166 x167 x168 x169 x170 x171 x172 x173 x174 x175 x176 x177 x178 x179 x180 x181 x182 x183 x184 x185 x186 x187 x188 x189 x190 x191 x192 x193 x194 x195 x196 x197 x198 x199 x200 x201 x202 x203 x204 x205 x206 x207 x208 x209 x210 x211 x212 x213 x214 x215 x216 x217 x218 x219 x220 x221 x222 x223 x224 x225 x226 x227 x228 x229 x230 x231 x232 x233 x234 x235 x236 x237 x238 x239 x240 x241 x242 x243 x244 x245 x246 x247 x248 x249 x250 x251 x252 x253 x254 x255 x256 x257 x258 x259 x260 x261 x262 x263 x264 x265 x266 x267 x268 x269 x270 x271 x272 x273 x274 x275 x276 x277 x278 x279 x280 x281 x282 x283 x284 x285 x286 x287 x288 x289 x290 x291 x292 x293 x294 x295 x296 x297 x298 x299 x300 x301 x302 x303 x304 x305 x306 x307 x308 x309 x310 x311 x312 x313 x314 x315 x316 x317 x318 x319 x320 x321 x322 x323 x324 x325 x326 x327 x328 x329
set_option maxRecDepth 1000000 in
set_option maxHeartbeats 16000000 in
theorem tr_abs_wp {Q : Exit → Act → World → Prop} {x : ByteArray} {w : World} {frs : List F7} {Aq : Option Addr} {cq i n : Nat} {wo : World} {D : Nat} (hx4 : x.size ≤ 4000) (hi : i < x.size) (hn : n ≤ 1000) (hl : frs.length ≤ 39) (hm : TMem w wo frs Aq cq (D)) (hD : D < wo.heap.size) (hblk : ∀ b, (Value.slice Aq frs.length cq).ownBlock = some b → w.heap.size + 3 ≤ b ∧ b < D) (hd : wo.heap[D]? = some (.cells #[.int .i64 0, .string ⟨#[]⟩, .int .i64 0, .string ⟨#[]⟩, .slice none 0 0, .slice none 0 0] 27 (0, 0))) (hR1 : byteAt x i = 91 → ∀ c a, rd x 40 (i + 1) 0 = .bad c a → c ≠ 0 ∧ ∀ a' w', Frm 330 [(2, .pointer (some ⟨w.heap.size, 0, none⟩)), (3, .pointer (some ⟨w.heap.size + 1, 0, none⟩))] a' → w'.heap[w.heap.size]? = some (.cells #[.int .i64 0, .string ⟨#[]⟩, .int .i64 0, .string ⟨#[]⟩, .slice none 0 0, .slice none 0 0] 27 (0, 0)) → w'.heap[w.heap.size + 1]? = some (.cells #[.int .i64 (c : Nat), .int .i64 (a : Nat)] 29 (0, 0)) → Below w.heap.size w w' → Q .ret a' w') (hR2 : byteAt x i = 91 → ∀ s a m, rd x 40 (i + 1) 0 = .ok s a m → byteAt x a ≠ 32 → ∀ a' w', Frm 330 [(2, .pointer (some ⟨w.heap.size, 0, none⟩)), (3, .pointer (some ⟨w.heap.size + 1, 0, none⟩))] a' → w'.heap[w.heap.size]? = some (.cells #[.int .i64 0, .string ⟨#[]⟩, .int .i64 0, .string ⟨#[]⟩, .slice none 0 0, .slice none 0 0] 27 (0, 0)) → w'.heap[w.heap.size + 1]? = some (.cells #[.int .i64 11, .int .i64 (a : Nat)] 29 (0, 0)) → Below w.heap.size w w' → Q .ret a' w') (hX : byteAt x i = 91 → ∀ s a m, rd x 40 (i + 1) 0 = .ok s a m → byteAt x a = 32 → ∀ (gg cap : Nat) (t0 t1 : Value) a' w', Frm 330 [(0, .string x), (2, .pointer (some ⟨w.heap.size, 0, none⟩)), (3, .pointer (some ⟨w.heap.size + 1, 0, none⟩)), (4, .slice (some ⟨gg, 0, none⟩) (frs.length + 1) cap), (5, .int .i64 (a + 1 : Nat)), (6, .int .i64 (n : Nat)), (7, .pointer (some ⟨w.heap.size + 2, 0, none⟩))] a' → TMem w w' (⟨.abs s, t0, t1, .slice none 0 0⟩ :: frs) (some ⟨gg, 0, none⟩) cap w'.heap.size → Q (.exit 1) a' w') (hN : byteAt x i ≠ 91 → ∀ a', Frm 330 [(0, .string x), (2, .pointer (some ⟨w.heap.size, 0, none⟩)), (3, .pointer (some ⟨w.heap.size + 1, 0, none⟩)), (4, .slice Aq frs.length cq), (5, .int .i64 (i : Nat)), (6, .int .i64 (n : Nat)), (7, .pointer (some ⟨w.heap.size + 2, 0, none⟩)), (8, .pointer (some ⟨D, 0, none⟩))] a' → Q .normal a' wo) : ∀ ac, Frm 330 [(0, .string x), (2, .pointer (some ⟨w.heap.size, 0, none⟩)), (3, .pointer (some ⟨w.heap.size + 1, 0, none⟩)), (4, .slice Aq frs.length cq), (5, .int .i64 (i : Nat)), (6, .int .i64 (n : Nat)), (7, .pointer (some ⟨w.heap.size + 2, 0, none⟩)), (8, .pointer (some ⟨D, 0, none⟩))] ac → Code.wp Tryd.prog c_tr_abs Q ac wo := by
  refine open_tr_abs (P := fun a => Code.wp Tryd.prog c_tr_abs Q a wo) ?_
  intro x1 x9 x10 x11 x12 x13 x14 x15 x16 x17 x18 x19 x20 x21 x22 x23 x24 x25 x26 x27 x28 x29 x30 x31 x32 x33 x34 x35 x36 x37 x38 x39 x40 x41 x42 x43 x44 x45 x46 x47 x48 x49 x50 x51 x52 x53 x54 x55 x56 x57 x58 x59 x60 x61 x62 x63 x64 x65 x66 x67 x68 x69 x70 x71 x72 x73 x74 x75 x76 x77 x78 x79 x80 x81 x82 x83 x84 x85 x86 x87 x88 x89 x90 x91 x92 x93 x94 x95 x96 x97 x98 x99 x100 x101 x102 x103 x104 x105 x106 x107 x108 x109 x110 x111 x112 x113 x114 x115 x116 x117 x118 x119 x120 x121 x122 x123 x124 x125 x126 x127 x128 x129 x130 x131 x132 x133 x134 x135 x136 x137 x138 x139 x140 x141 x142 x143 x144 x145 x146 x147 x148 x149 x150 x151 x152 x153 x154 x155 x156 x157 x158 x159 x160 x161 x162 x163 x164 x165 x166 x167 x168 x169 x170 x171 x172 x173 x174 x175 x176 x177 x178 x179 x180 x181 x182 x183 x184 x185 x186 x187 x188 x189 x190 x191 x192 x193 x194 x195 x196 x197 x198 x199 x200 x201 x202 x203 x204 x205 x206 x207 x208 x209 x210 x211 x212 x213 x214 x215 x216 x217 x218 x219 x220 x221 x222 x223 x224 x225 x226 x227 x228 x229 x230 x231 x232 x233 x234 x235 x236 x237 x238 x239 x240 x241 x242 x243 x244 x245 x246 x247 x248 x249 x250 x251 x252 x253 x254 x255 x256 x257 x258 x259 x260 x261 x262 x263 x264 x265 x266 x267 x268 x269 x270 x271 x272 x273 x274 x275 x276 x277 x278 x279 x280 x281 x282 x283 x284 x285 x286 x287 x288 x289 x290 x291 x292 x293 x294 x295 x296 x297 x298 x299 x300 x301 x302 x303 x304 x305 x306 x307 x308 x309 x310 x311 x312 x313 x314 x315 x316 x317 x318 x319 x320 x321 x322 x323 x324 x325 x326 x327 x328 x329
  conv => arg 2; whnf
  have HR1 := Lib.hid hR1
  have HR2 := Lib.hid hR2
  have HX := Lib.hid hX
  have HN := Lib.hid hN
  clear hR1 hR2 hX hN
  obtain ⟨ti, hti, htz0, htz1, htz2⟩ := info_parts infoFrame
  have hbz := FsOk.base hm.fs
  obtain ⟨hown, hfrs, ⟨pz, pf, pn⟩, hB⟩ := hm
  have HOWN := Lib.hid hown
  have HFRS := Lib.hid hfrs
  have HB := Lib.hid hB
  have HBLK := Lib.hid hblk
  clear hown hfrs hB hblk
  have pz_0 := cv0 pz
  have pz_1 := cv1 pz
  have pz_2 := cv2 pz
  have pz_3 := cv3 pz
  have pz_4 := cv4 pz
  have pz_5 := cv5 pz
  have pz_f0 := free_heap pz 0
  have pz_f1 := free_heap pz 1
  have pz_f2 := free_heap pz 2
  have pz_f3 := free_heap pz 3
  have pz_f4 := free_heap pz 4
  have pz_f5 := free_heap pz 5
  have pz_l := lt_heap pz
  have PZ := Lib.hid pz
  clear pz
  have pf_0 := cv0 pf
  have pf_1 := cv1 pf
  have pf_f0 := free_heap pf 0
  have pf_f1 := free_heap pf 1
  have pf_l := lt_heap pf
  have PF := Lib.hid pf
  clear pf
  have pn_0 := cv0 pn
  have pn_1 := cv1 pn
  have pn_2 := cv2 pn
  have pn_3 := cv3 pn
  have pn_4 := cv4 pn
  have pn_5 := cv5 pn
  have pn_l := lt_heap pn
  have PN := Lib.hid pn
  clear pn
  have pd := hd
  have PD := Lib.hid pd
  clear pd
  clear hd
  have hba : byteAt x i = (x[i]'hi).toNat := byteAt_in hi
  by_cases h91 : byteAt x i = 91
  case neg =>
    have t1 : ((((x[i]'hi).toNat : Nat) : Int) == 91) = false := beq_eq_false_iff_ne.2 (by omega)
    replace HN := Lib.hid (HN.out h91)
    clear h91 hba
    go_wp2_with fail
    exact HN.out _ (id ⟨rfl, rfl, rfl, rfl, rfl, rfl, rfl, rfl, rfl, rfl, trivial⟩)
  have t91 : ((((x[i]'hi).toNat : Nat) : Int) == 91) = true := by rw [← hba, h91]; rfl
  have hi1 : ((i : Int) + 1) = ((i + 1 : Nat) : Int) := by omega
  have HI1 := Lib.hid hi1
  have hrt := readType_any x hx4 (i + 1) (by omega) wo
  rw [runR_nil] at hrt
  replace HR1 := Lib.hid (HR1.out h91)
  replace HR2 := Lib.hid (HR2.out h91)
  replace HX := Lib.hid (HX.out h91)
  clear hba h91 hi1
  cases hrd : rd x 40 (i + 1) 0 with
  | bad c a =>
    rw [hrd] at hrt
    obtain ⟨hc0, hr⟩ := HR1.out c a hrd
    have hc1 : ((c : Int) != 0) = true := bne_iff_ne.2 (by omega)
    clear hrd hc0
    have HR := Lib.hid hr
    have HRT := Lib.hid hrt
    clear hr hrt
    go_wp2_with fail
    rw [HI1.out]
    refine HRT.out.mono ?_
    rintro e w4 ⟨rfl, hw4⟩
    have z4 : wo.heap.size ≤ w4.heap.size := hw4.size
    have pz' := (hw4.block _ pz_l).trans PZ.out
    have pf' := (hw4.block _ pf_l).trans PF.out
    have pn' := (hw4.block _ pn_l).trans PN.out
    have hB' := HB.out.trans (hw4.mono (by omega))
    have hpd' := (hw4.block D hD).trans PD.out
    have hown' := rowGrown HOWN.out (fun b hb _ => hw4.block b hb)
    have hfrs' := HFRS.out.keep (fun b h1 h2 h3 => hw4.block b (by omega)) (fun _ _ e => e) (Nat.le_refl _)
    have lz := lt_heap pz'
    have lf := lt_heap pf'
    have ln := lt_heap pn'
    have ld := lt_heap hpd'
    clear hw4
    clear pz_0 pz_1 pz_2 pz_3 pz_4 pz_5 pz_f0 pz_f1 pz_f2 pz_f3 pz_f4 pz_f5 pz_l pf_0 pf_1 pf_f0 pf_f1 pf_l pn_0 pn_1 pn_2 pn_3 pn_4 pn_5 pn_l
    have PZP := Lib.hid pz'
    have PFP := Lib.hid pf'
    have PNP := Lib.hid pn'
    have HBP := Lib.hid hB'
    have HPDP := Lib.hid hpd'
    have HOWNP := Lib.hid hown'
    have HFRSP := Lib.hid hfrs'
    clear pz' pf' pn' hB' hpd' hown' hfrs'
    go_upto_region 17 with (fail)
    refine gen_last (fun W => (W.heap[w.heap.size]? = some (.cells #[.int .i64 0, .string ⟨#[]⟩, .int .i64 0, .string ⟨#[]⟩, .slice none 0 0, .slice none 0 0] 27 (0, 0)) ∧ W.heap[w.heap.size + 1]? = some (.cells #[.int .i64 0, .int .i64 0] 29 (0, 0)) ∧ W.heap[w.heap.size + 2]? = some (.cells #[.int .i64 0, .string ⟨#[]⟩, .int .i64 0, .string ⟨#[]⟩, .slice none 0 0, .slice none 0 0] 27 (0, 0))) ∧ Below w.heap.size w W ∧ W.ownsRow (w.heap.size + 3) 55 7 (.slice Aq frs.length cq) frs.length (f7Cells frs) ∧ FsOk W (Value.slice Aq frs.length cq).ownBlock (w.heap.size + 3) frs D ∧ w4.heap.size + 2 ≤ W.heap.size ∧ W.heap[D]? = some (.cells #[.int .i64 0, .string ⟨#[]⟩, .int .i64 0, .string ⟨#[]⟩, .slice none 0 0, .slice none 0 0] 27 (0, 0)) ∧ W.heap[w4.heap.size]? = some (.cells #[.string ⟨#[]⟩, .slice none 0 0] 24 (0, 0)) ∧ W.heap[w4.heap.size + 1]? = some (.cells #[.int .i64 (c : Nat), .int .i64 (a : Nat)] 29 (0, 0))) ?_ ?_
    · exact ⟨⟨heap_old (by simp; omega) (heap_old lz PZP.out), heap_old (by simp; omega) (heap_old lf PFP.out), heap_old (by simp; omega) (heap_old ln PNP.out)⟩, (HBP.out.alloc (by omega) _).alloc (by simp; omega) _, (HOWNP.out.alloc _).alloc _, HFRSP.out.keep (fun b h1 h2 h3 => heap_old (by simp; omega) (heap_old (by omega) rfl)) (fun _ _ e => e) (Nat.le_refl _), by simp, heap_old (by simp; omega) (heap_old ld HPDP.out), heap_old (by simp) (heap_at rfl), heap_at (by simp)⟩
    rintro w5 ⟨⟨pz, pf, pn⟩, hB, hown, hfrs, z5, pd, ps, pe⟩
    clear lz lf ln ld
    have HB := Lib.hid hB
    have HOWN := Lib.hid hown
    have HFRS := Lib.hid hfrs
    clear hB hown hfrs
    have pz_0 := cv0 pz
    have pz_1 := cv1 pz
    have pz_2 := cv2 pz
    have pz_3 := cv3 pz
    have pz_4 := cv4 pz
    have pz_5 := cv5 pz
    have pz_f0 := free_heap pz 0
    have pz_f1 := free_heap pz 1
    have pz_f2 := free_heap pz 2
    have pz_f3 := free_heap pz 3
    have pz_f4 := free_heap pz 4
    have pz_f5 := free_heap pz 5
    have pz_l := lt_heap pz
    have PZ := Lib.hid pz
    clear pz
    have pf_0 := cv0 pf
    have pf_1 := cv1 pf
    have pf_f0 := free_heap pf 0
    have pf_f1 := free_heap pf 1
    have pf_l := lt_heap pf
    have PF := Lib.hid pf
    clear pf
    have pn_0 := cv0 pn
    have pn_1 := cv1 pn
    have pn_2 := cv2 pn
    have pn_3 := cv3 pn
    have pn_4 := cv4 pn
    have pn_5 := cv5 pn
    have pn_l := lt_heap pn
    have PN := Lib.hid pn
    clear pn
    have pe_0 := cv0 pe
    have pe_1 := cv1 pe
    have pe_l := lt_heap pe
    have PE := Lib.hid pe
    clear pe
    go_upto_region 18 with (fail)
    go_region
    all_goals go_wp2_with fail
    all_goals first
      | exact HR.out _ _ (id ⟨rfl, rfl, rfl, rfl, trivial⟩) (heap_drew (far2 (by omega) (at6 PZ.out))) (heap_drew (at2 (far6 (by omega) PF.out))) (below2 (below6 HB.out (Nat.le_refl _)) (by omega)).drew
      | exact HR.out _ _ (id ⟨rfl, rfl, rfl, rfl, trivial⟩) (far2 (by omega) (at6 PZ.out)) (at2 (far6 (by omega) PF.out)) (below2 (below6 HB.out.drew (Nat.le_refl _)) (by omega))
      | exact HR.out _ _ (id ⟨rfl, rfl, rfl, rfl, trivial⟩) (at6 (far2 (by omega) PZ.out)) (far6 (by omega) (at2 PF.out)) (below6 (below2 HB.out.drew (by omega)) (Nat.le_refl _))
      | fail
  | ok sy a m =>
    rw [hrd] at hrt
    have hax := (rd_ok x 40 (i + 1) 0 sy a m hrd).1
    have hia := (rd_ok x 40 (i + 1) 0 sy a m hrd).2.1
    have f2 := HR2.out sy a m hrd
    have f3 := HX.out sy a m hrd
    clear hrd
    have F2 := Lib.hid f2
    have F3 := Lib.hid f3
    have HRT := Lib.hid hrt
    clear f2 f3 hrt
    go_wp2_with fail
    rw [HI1.out]
    refine HRT.out.mono ?_
    rintro e w4 ⟨v0, v1, rfl, hsy, hw4⟩
    obtain ⟨sv, Av, nv, cv, rfl, rfl⟩ := hsy.shape
    have z4 : wo.heap.size ≤ w4.heap.size := hw4.size
    have pz' := (hw4.block _ pz_l).trans PZ.out
    have pf' := (hw4.block _ pf_l).trans PF.out
    have pn' := (hw4.block _ pn_l).trans PN.out
    have hB' := HB.out.trans (hw4.mono (by omega))
    have hpd' := (hw4.block D hD).trans PD.out
    have hown' := rowGrown HOWN.out (fun b hb _ => hw4.block b hb)
    have hfrs' := HFRS.out.keep (fun b h1 h2 h3 => hw4.block b (by omega)) (fun _ _ e => e) (Nat.le_refl _)
    have lz := lt_heap pz'
    have lf := lt_heap pf'
    have ln := lt_heap pn'
    have ld := lt_heap hpd'
    clear hw4
    clear pz_0 pz_1 pz_2 pz_3 pz_4 pz_5 pz_f0 pz_f1 pz_f2 pz_f3 pz_f4 pz_f5 pz_l pf_0 pf_1 pf_f0 pf_f1 pf_l pn_0 pn_1 pn_2 pn_3 pn_4 pn_5 pn_l
    have PZP := Lib.hid pz'
    have PFP := Lib.hid pf'
    have PNP := Lib.hid pn'
    have HBP := Lib.hid hB'
    have HPDP := Lib.hid hpd'
    have HOWNP := Lib.hid hown'
    have HFRSP := Lib.hid hfrs'
    clear pz' pf' pn' hB' hpd' hown' hfrs'
    have HSY := Lib.hid hsy
    clear hsy
    go_upto_region 17 with (fail)
    refine gen_last (fun W => (W.heap[w.heap.size]? = some (.cells #[.int .i64 0, .string ⟨#[]⟩, .int .i64 0, .string ⟨#[]⟩, .slice none 0 0, .slice none 0 0] 27 (0, 0)) ∧ W.heap[w.heap.size + 1]? = some (.cells #[.int .i64 0, .int .i64 0] 29 (0, 0)) ∧ W.heap[w.heap.size + 2]? = some (.cells #[.int .i64 0, .string ⟨#[]⟩, .int .i64 0, .string ⟨#[]⟩, .slice none 0 0, .slice none 0 0] 27 (0, 0))) ∧ Below w.heap.size w W ∧ W.ownsRow (w.heap.size + 3) 55 7 (.slice Aq frs.length cq) frs.length (f7Cells frs) ∧ FsOk W (Value.slice Aq frs.length cq).ownBlock (w.heap.size + 3) frs D ∧ w4.heap.size + 2 ≤ W.heap.size ∧ W.heap[D]? = some (.cells #[.int .i64 0, .string ⟨#[]⟩, .int .i64 0, .string ⟨#[]⟩, .slice none 0 0, .slice none 0 0] 27 (0, 0)) ∧ W.heap[w4.heap.size]? = some (.cells #[.string sv, .slice Av nv cv] 24 (0, 0)) ∧ W.heap[w4.heap.size + 1]? = some (.cells #[.int .i64 0, .int .i64 0] 29 (0, 0)) ∧ sy.ty.In W (fun b => wo.heap.size ≤ b ∧ b < w4.heap.size) (.string sv) (.slice Av nv cv)) ?_ ?_
    · exact ⟨⟨heap_old (by simp; omega) (heap_old lz PZP.out), heap_old (by simp; omega) (heap_old lf PFP.out), heap_old (by simp; omega) (heap_old ln PNP.out)⟩, (HBP.out.alloc (by omega) _).alloc (by simp; omega) _, (HOWNP.out.alloc _).alloc _, HFRSP.out.keep (fun b h1 h2 h3 => heap_old (by simp; omega) (heap_old (by omega) rfl)) (fun _ _ e => e) (Nat.le_refl _), by simp, heap_old (by simp; omega) (heap_old ld HPDP.out), heap_old (by simp) (heap_at rfl), heap_at (by simp), (HSY.out.keep (fun b hb => heap_old (by have := hb.2; simp; omega) (heap_old hb.2 rfl))).mono (fun b hb => hb)⟩
    rintro w5 ⟨⟨pz, pf, pn⟩, hB, hown, hfrs, z5, pd, ps, pe, hsy⟩
    clear lz lf ln ld
    have HB := Lib.hid hB
    have HOWN := Lib.hid hown
    have HFRS := Lib.hid hfrs
    have HSY := Lib.hid hsy
    clear hB hown hfrs hsy
    have pz_0 := cv0 pz
    have pz_1 := cv1 pz
    have pz_2 := cv2 pz
    have pz_3 := cv3 pz
    have pz_4 := cv4 pz
    have pz_5 := cv5 pz
    have pz_f0 := free_heap pz 0
    have pz_f1 := free_heap pz 1
    have pz_f2 := free_heap pz 2
    have pz_f3 := free_heap pz 3
    have pz_f4 := free_heap pz 4
    have pz_f5 := free_heap pz 5
    have pz_l := lt_heap pz
    have PZ := Lib.hid pz
    clear pz
    have pf_0 := cv0 pf
    have pf_1 := cv1 pf
    have pf_f0 := free_heap pf 0
    have pf_f1 := free_heap pf 1
    have pf_l := lt_heap pf
    have PF := Lib.hid pf
    clear pf
    have pn_0 := cv0 pn
    have pn_1 := cv1 pn
    have pn_2 := cv2 pn
    have pn_3 := cv3 pn
    have pn_4 := cv4 pn
    have pn_5 := cv5 pn
    have pn_l := lt_heap pn
    have PN := Lib.hid pn
    clear pn
    have pe_0 := cv0 pe
    have pe_1 := cv1 pe
    have pe_l := lt_heap pe
    have PE := Lib.hid pe
    clear pe
    have ps_0 := cv0 ps
    have ps_1 := cv1 ps
    have ps_l := lt_heap ps
    have PS := Lib.hid ps
    clear ps
    have ha1 : ((a : Int) + 1) = ((a + 1 : Nat) : Int) := by omega
    have HA1 := Lib.hid ha1
    clear ha1
    by_cases hl2 : a < x.size
    case neg =>
      have q1 : (x.size : Int) ≤ (a : Int) := by omega
      have hch : byteAt x a ≠ 32 := by rw [byteAt_out (by omega)]; decide
      have hr := F2.out hch
      have HR := Lib.hid hr
      have HCH := Lib.hid hch
      clear hr hch
      go_wp2_with fail
      exact HR.out _ _ (id ⟨rfl, rfl, rfl, rfl, trivial⟩) (far2 (by omega) (at6 PZ.out)) (at2 (far6 (by omega) PF.out)) (below2 (below6 HB.out (Nat.le_refl _)) (by omega))
    have q1 : ¬ (x.size : Int) ≤ (a : Int) := by omega
    have hb2 : byteAt x a = (x[a]'hl2).toNat := byteAt_in hl2
    by_cases hc2 : (x[a]'hl2).toNat = 32
    · have q2 : ((((x[a]'hl2).toNat : Nat) : Int) != 32) = false := by rw [hc2]; rfl
      have hch : byteAt x a = 32 := by rw [hb2]; exact hc2
      clear hb2 hc2
      have hx9 := F3.out hch
      have HX9 := Lib.hid hx9
      have HCH := Lib.hid hch
      clear hx9 hch
      go_wp2_with (at_builtin; refine wpList_append_lies (w5.alloc (.cells #[.int .i64 3, .string ⟨#[]⟩, .int .i64 0, .string sv, .slice Av nv cv, .slice none 0 0, .int .i64 1] 55)) ?h1 (.tmp 117) (.tmp 121) 53 ?h2 (w.heap.size + 3) 55 ti (.agg #[.int .i64 0, .string ⟨#[]⟩, .int .i64 0, .string ⟨#[]⟩, .slice none 0 0, .slice none 0 0, .int .i64 0]) 7 104 ?h3 hti htz0 htz1 htz2 ?h4 ?h5 (.slice Aq frs.length cq) frs.length (f7Cells frs) ?h6 ?h7 ⟨w5.heap.size, 0, none⟩ 1 1 [.int .i64 3, .string ⟨#[]⟩, .int .i64 0, .string sv, .slice Av nv cv, .slice none 0 0, .int .i64 1] ?h8 ?h9 ?h10 ?h11 ?h12 ?h13 ?h14 ?h15 (w5.heap.size + 1) ?h16 ?_)
      try (case h1 => rfl)
      try (case h2 => rfl)
      try (case h3 => exact Tryd.underlying53)
      try (case h4 => rfl)
      try (case h5 => omega)
      try (case h6 => rfl)
      try (case h7 => exact HOWN.out.alloc _)
      try (case h8 => rfl)
      try (case h9 => rfl)
      try (case h10 => exact World.news_of_block (cs := #[.int .i64 3, .string ⟨#[]⟩, .int .i64 0, .string sv, .slice Av nv cv, .slice none 0 0, .int .i64 1]) (t := 55) (fr := (0, 0)) (heap_alloc_new w5 _))
      try (case h11 => simp [Value.oneCell'])
      try (case h12 => omega)
      try (case h13 => first | (simp [maxLen]; omega) | (unfold maxLen; omega))
      try (case h14 => omega)
      try (case h15 => first | omega | (simp; omega))
      try (case h16 => first | rfl | simp)
      intro gg cap w6 hown3 hgrow hat hlt
      have z6 : w5.heap.size + 1 ≤ w6.heap.size := by have := hgrow.size; simpa using this
      have HOWN3 := Lib.hid hown3
      have HGROW := Lib.hid hgrow
      have HAT := Lib.hid hat
      clear hown3 hgrow hat
      go_wp2_with fail
      rw [HA1.out]
      have hkeep : ∀ b, b < w5.heap.size → (Value.slice Aq frs.length cq).ownBlock ≠ some b → w6.heap[b]? = w5.heap[b]? := fun b hb hne => (HGROW.out.block b (by simp; omega) (fun e => hne e.symm)).trans (heap_old hb rfl)
      have hgb : ∀ b, b < w5.heap.size → (some gg = some b) → (Value.slice Aq frs.length cq).ownBlock = some b := by
        intro b hb e
        rcases HAT.out with h | h
        · rw [h]; exact e
        · injection e with e; omega
      refine HX9.out gg cap (.string sv) (.slice Av nv cv) _ _ (id ⟨rfl, rfl, rfl, rfl, rfl, rfl, rfl, rfl, rfl, trivial⟩) ?_
      refine ⟨?_, ?_, ⟨?_, ?_, ?_⟩, ?_⟩
      · rw [f7Cells_cons]; exact HOWN3.out
      · refine FsOk.pushA (lo := D) (HFRS.out.keep (fun b h1 h2 h3 => hkeep b (by omega) h3) (fun b hb e => hgb b (by omega) e) (Nat.le_refl _)) (by omega) ?_
        exact (HSY.out.keep (fun b hb => hkeep b (by omega) (fun e => by have := (HBLK.out b e).2; omega))).mono (fun b hb => ⟨by omega, by omega, fun e => by have := (HBLK.out b (hgb b (by omega) e)).2; omega⟩)
      · exact (hkeep _ (by omega) (fun e => by have := HBLK.out _ e; omega)).trans PZ.out
      · exact (hkeep _ (by omega) (fun e => by have := HBLK.out _ e; omega)).trans PF.out
      · exact (hkeep _ (by omega) (fun e => by have := HBLK.out _ e; omega)).trans PN.out
      · exact (HB.out.alloc (by omega) _).grown HGROW.out (by simp; omega) (fun k hk => by have := HBLK.out k hk; omega)
    · have q2 : ((((x[a]'hl2).toNat : Nat) : Int) != 32) = true := bne_iff_ne.2 (by omega)
      have hch : byteAt x a ≠ 32 := by rw [hb2]; exact hc2
      clear hb2 hc2
      have hr := F2.out hch
      have HR := Lib.hid hr
      have HCH := Lib.hid hch
      clear hr hch
      go_wp2_with fail
      exact HR.out _ _ (id ⟨rfl, rfl, rfl, rfl, trivial⟩) (far2 (by omega) (at6 PZ.out)) (at2 (far6 (by omega) PF.out)) (below2 (below6 HB.out (Nat.le_refl _)) (by omega))
end

section
open Go Go.RowKit
set_option linter.unusedSimpArgs false
set_option linter.unusedVariables false

noncomputable def c_tr_num0 : Code := sub [1, 1, 1, 1, 1, 0, 0, 0, 1, 1, 1, 1, 1, 1, 0, 1, 0, 0] (Tryd.f9.body.getD .skip)
set_option maxRecDepth 1000000 in
theorem open_tr_num0 {P : Act → Prop} {v0 v1 v2 v3 v4 v5 v6 v7 : Value} (h : ∀ x1 x9 x10 x11 x12 x13 x14 x15 x16 x17 x18 x19 x20 x21 x22 x23 x24 x25 x26 x27 x28 x29 x30 x31 x32 x33 x34 x35 x36 x37 x38 x39 x40 x41 x42 x43 x44 x45 x46 x47 x48 x49 x50 x51 x52 x53 x54 x55 x56 x57 x58 x59 x60 x61 x62 x63 x64 x65 x66 x67 x68 x69 x70 x71 x72 x73 x74 x75 x76 x77 x78 x79 x80 x81 x82 x83 x84 x85 x86 x87 x88 x89 x90 x91 x92 x93 x94 x95 x96 x97 x98 x99 x100 x101 x102 x103 x104 x105 x106 x107 x108 x109 x110 x111 x112 x113 x114 x115 x116 x117 x118 x119 x120 x121 x122 x123 x124 x125 x126 x127 x128 x129 x130 x131 x132 x133 x134 x135 x136 x137 x138 x139 x140 x141 x142 x143 x144 x145 x146 x147 x148 x149 x150 x151 x152 x153 x154 x155 x156 x157 x158 x159 x160 x161 x162 x163 x164 x165 x166 x167 x168 x169 x170 x171 x172 x173 x174 x175 x176 x177 x178 x179 x180 x181 x182 x183 x184 x185 x186 x187 x188 x189 x190 x191 x192 x193 x194 x195 x196 x197 x198 x199 x200 x201 x202 x203 x204 x205 x206 x207 x208 x209 x210 x211 x212 x213 x214 x215 x216 x217 x218 x219 x220 x221 x222 x223 x224 x225 x226 x227 x228 x229 x230 x231 x232 x233 x234 x235 x236 x237 x238 x239 x240 x241 x242 x243 x244 x245 x246 x247 x248 x249 x250 x251 x252 x253 x254 x255 x256 x257 x258 x259 x260 x261 x262 x263 x264 x265 x266 x267 x268 x269 x270 x271 x272 x273 x274 x275 x276 x277 x278 x279 x280 x281 x282 x283 x284 x285 x286 x287 x288 x289 x290 x291 x292 x293 x294 x295 x296 x297 x298 x299 x300 x301 x302 x303 x304 x305 x306 x307 x308 x309 x310 x311 x312 x313 x314 x315 x316 x317 x318 x319 x320 x321 x322 x323 x324 x325 x326 x327 x328 x329 : Value, P ⟨(v0 :: x1 :: v1 :: v2 :: v3 :: v4 :: v5 :: v6 :: v7 :: x9 :: x10 :: x11 :: x12 :: x13 :: x14 :: x15 :: x16 :: x17 :: x18 :: x19 :: x20 :: x21 :: x22 :: x23 :: x24 :: x25 :: x26 :: x27 :: x28 :: x29 :: x30 :: x31 :: x32 :: x33 :: x34 :: x35 :: x36 :: x37 :: x38 :: x39 :: x40 :: x41 :: x42 :: x43 :: x44 :: x45 :: x46 :: x47 :: x48 :: x49 :: x50 :: x51 :: x52 :: x53 :: x54 :: x55 :: x56 :: x57 :: x58 :: x59 :: x60 :: x61 :: x62 :: x63 :: x64 :: x65 :: x66 :: x67 :: x68 :: x69 :: x70 :: x71 :: x72 :: x73 :: x74 :: x75 :: x76 :: x77 :: x78 :: x79 :: x80 :: x81 :: x82 :: x83 :: x84 :: x85 :: x86 :: x87 :: x88 :: x89 :: x90 :: x91 :: x92 :: x93 :: x94 :: x95 :: x96 :: x97 :: x98 :: x99 :: x100 :: x101 :: x102 :: x103 :: x104 :: x105 :: x106 :: x107 :: x108 :: x109 :: x110 :: x111 :: x112 :: x113 :: x114 :: x115 :: x116 :: x117 :: x118 :: x119 :: x120 :: x121 :: x122 :: x123 :: x124 :: x125 :: x126 :: x127 :: x128 :: x129 :: x130 :: x131 :: x132 :: x133 :: x134 :: x135 :: x136 :: x137 :: x138 :: x139 :: x140 :: x141 :: x142 :: x143 :: x144 :: x145 :: x146 :: x147 :: x148 :: x149 :: x150 :: x151 :: x152 :: x153 :: x154 :: x155 :: x156 :: x157 :: x158 :: x159 :: x160 :: x161 :: x162 :: x163 :: x164 :: x165 :: x166 :: x167 :: x168 :: x169 :: x170 :: x171 :: x172 :: x173 :: x174 :: x175 :: x176 :: x177 :: x178 :: x179 :: x180 :: x181 :: x182 :: x183 :: x184 :: x185 :: x186 :: x187 :: x188 :: x189 :: x190 :: x191 :: x192 :: x193 :: x194 :: x195 :: x196 :: x197 :: x198 :: x199 :: x200 :: x201 :: x202 :: x203 :: x204 :: x205 :: x206 :: x207 :: x208 :: x209 :: x210 :: x211 :: x212 :: x213 :: x214 :: x215 :: x216 :: x217 :: x218 :: x219 :: x220 :: x221 :: x222 :: x223 :: x224 :: x225 :: x226 :: x227 :: x228 :: x229 :: x230 :: x231 :: x232 :: x233 :: x234 :: x235 :: x236 :: x237 :: x238 :: x239 :: x240 :: x241 :: x242 :: x243 :: x244 :: x245 :: x246 :: x247 :: x248 :: x249 :: x250 :: x251 :: x252 :: x253 :: x254 :: x255 :: x256 :: x257 :: x258 :: x259 :: x260 :: x261 :: x262 :: x263 :: x264 :: x265 :: x266 :: x267 :: x268 :: x269 :: x270 :: x271 :: x272 :: x273 :: x274 :: x275 :: x276 :: x277 :: x278 :: x279 :: x280 :: x281 :: x282 :: x283 :: x284 :: x285 :: x286 :: x287 :: x288 :: x289 :: x290 :: x291 :: x292 :: x293 :: x294 :: x295 :: x296 :: x297 :: x298 :: x299 :: x300 :: x301 :: x302 :: x303 :: x304 :: x305 :: x306 :: x307 :: x308 :: x309 :: x310 :: x311 :: x312 :: x313 :: x314 :: x315 :: x316 :: x317 :: x318 :: x319 :: x320 :: x321 :: x322 :: x323 :: x324 :: x325 :: x326 :: x327 :: x328 :: x329 :: []).toArray, []⟩) : ∀ a, Frm 330 [(0, v0), (2, v1), (3, v2), (4, v3), (5, v4), (6, v5), (7, v6), (8, v7)] a → P a := by
  rintro a ⟨h1, h2, e0, e1, e2, e3, e4, e5, e6, e7, _⟩
  revert e0 e1 e2 e3 e4 e5 e6 e7
  refine frame_tr (P := fun a => a.tmps.toList[0]? = some v0 → a.tmps.toList[2]? = some v1 → a.tmps.toList[3]? = some v2 → a.tmps.toList[4]? = some v3 → a.tmps.toList[5]? = some v4 → a.tmps.toList[6]? = some v5 → a.tmps.toList[7]? = some v6 → a.tmps.toList[8]? = some v7 → P a) ?_ a h1 h2
  intro x0 x1 x2 x3 x4 x5 x6 x7 x8 x9 x10 x11 x12 x13 x14 x15 x16 x17 x18 x19 x20 x21 x22 x23 x24 x25 x26 x27 x28 x29 x30 x31 x32 x33 x34 x35 x36 x37 x38 x39 x40 x41 x42 x43 x44 x45 x46 x47 x48 x49 x50 x51 x52 x53 x54 x55 x56 x57 x58 x59 x60 x61 x62 x63 x64 x65 x66 x67 x68 x69 x70 x71 x72 x73 x74 x75 x76 x77 x78 x79 x80 x81 x82 x83 x84 x85 x86 x87 x88 x89 x90 x91 x92 x93 x94 x95 x96 x97 x98 x99 x100 x101 x102 x103 x104 x105 x106 x107 x108 x109 x110 x111 x112 x113 x114 x115 x116 x117 x118 x119 x120 x121 x122 x123 x124 x125 x126 x127 x128 x129 x130 x131 x132 x133 x134 x135 x136 x137 x138 x139 x140 x141 x142 x143 x144 x145 x146 x147 x148 x149 x150 x151 x152 x153 x154 x155 x156 x157 x158 x159 x160 x161 x162 x163 x164 x165 x166 x167 x168 x169 x170 x171 x172 x173 x174 x175 x176 x177 x178 x179 x180 x181 x182 x183 x184 x185 x186 x187 x188 x189 x190 x191 x192 x193 x194 x195 x196 x197 x198 x199 x200 x201 x202 x203 x204 x205 x206 x207 x208 x209 x210 x211 x212 x213 x214 x215 x216 x217 x218 x219 x220 x221 x222 x223 x224 x225 x226 x227 x228 x229 x230 x231 x232 x233 x234 x235 x236 x237 x238 x239 x240 x241 x242 x243 x244 x245 x246 x247 x248 x249 x250 x251 x252 x253 x254 x255 x256 x257 x258 x259 x260 x261 x262 x263 x264 x265 x266 x267 x268 x269 x270 x271 x272 x273 x274 x275 x276 x277 x278 x279 x280 x281 x282 x283 x284 x285 x286 x287 x288 x289 x290 x291 x292 x293 x294 x295 x296 x297 x298 x299 x300 x301 x302 x303 x304 x305 x306 x307 x308 x309 x310 x311 x312 x313 x314 x315 x316 x317 x318 x319 x320 x321 x322 x323 x324 x325 x326 x327 x328 x329 e0 e1 e2 e3 e4 e5 e6 e7
  obtain rfl : x0 = v0 := Option.some.inj e0
  obtain rfl : x2 = v1 := Option.some.inj e1
  obtain rfl : x3 = v2 := Option.some.inj e2
  obtain rfl : x4 = v3 := Option.some.inj e3
  obtain rfl : x5 = v4 := Option.some.inj e4
  obtain rfl : x6 = v5 := Option.some.inj e5
  obtain rfl : x7 = v6 := Option.some.inj e6
  obtain rfl : x8 = v7 := Option.some.inj e7
  exact h x1 x9 x10 x11 x12 x13 x14 x15 x16 x17 x18 x19 x20 x21 x22 x23 x24 x25 x26 x27 x28 x29 x30 x31 x32 x33 x34 x35 x36 x37 x38 x39 x40 x41 x42 x43 x44 x45 x46 x47 x48 x49 x50 x51 x52 x53 x54 x55 x56 x57 x58 x59 x60 x61 x62 x63 x64 x65 x66 x67 x68 x69 x70 x71 x72 x73 x74 x75 x76 x77 x78 x79 x80 x81 x82 x83 x84 x85 x86 x87 x88 x89 x90 x91 x92 x93 x94 x95 x96 x97 x98 x99 x100 x101 x102 x103 x104 x105 x106 x107 x108 x109 x110 x111 x112 x113 x114 x115 x116 x117 x118 x119 x120 x121 x122 x123 x124 x125 x126 x127 x128 x129 x130 x131 x132 x133 x134 x135 x136 x137 x138 x139 x140 x141 x142 x143 x144 x145 x146 x147 x148 x149 x150 x151 x152 x153 x154 x155 x156 x157 x158 x159 x160 x161 x162 x163 x164 x165 x166 x167 x168 x169 x170 x171 x172 x173 x174 x175 x176 x177 x178 x179 x180 x181 x182 x183 x184 x185 x186 x187 x188 x189 x190 x191 x192 x193 x194 x195 x196 x197 x198 x199 x200 x201 x202 x203 x204 x205 x206 x207 x208 x209 x210 x211 x212 x213 x214 x215 x216 x217 x218 x219 x220 x221 x222 x223 x224 x225 x226 x227 x228 x229 x230 x231 x232 x233 x234 x235 x236 x237 x238 x239 x240 x241 x242 x243 x244 x245 x246 x247 x248 x249 x250 x251 x252 x253 x254 x255 x256 x257 x258 x259 x260 x261 x262 x263 x264 x265 x266 x267 x268 x269 x270 x271 x272 x273 x274 x275 x276 x277 x278 x279 x280 x281 x282 x283 x284 x285 x286 x287 x288 x289 x290 x291 x292 x293 x294 x295 x296 x297 x298 x299 x300 x301 x302 x303 x304 x305 x306 x307 x308 x309 x310 x311 x312 x313 x314 x315 x316 x317 x318 x319 x320 x321 x322 x323 x324 x325 x326 x327 x328 x329
set_option maxRecDepth 1000000 in
set_option maxHeartbeats 16000000 in
theorem tr_num0_wp {Q : Exit → Act → World → Prop} {x : ByteArray} {w : World} {frs : List F7} {Aq : Option Addr} {cq i n : Nat} {wo : World} {D : Nat} (hx4 : x.size ≤ 4000) (hi : i ≤ x.size) (hN : ∀ a', Frm 330 [(0, .string x), (2, .pointer (some ⟨w.heap.size, 0, none⟩)), (3, .pointer (some ⟨w.heap.size + 1, 0, none⟩)), (4, .slice Aq frs.length cq), (5, .int .i64 (i + 1 : Nat)), (6, .int .i64 (n : Nat)), (7, .pointer (some ⟨w.heap.size + 2, 0, none⟩)), (8, .pointer (some ⟨D, 0, none⟩))] a' → Q .normal a' wo) : ∀ ac, Frm 330 [(0, .string x), (2, .pointer (some ⟨w.heap.size, 0, none⟩)), (3, .pointer (some ⟨w.heap.size + 1, 0, none⟩)), (4, .slice Aq frs.length cq), (5, .int .i64 (i : Nat)), (6, .int .i64 (n : Nat)), (7, .pointer (some ⟨w.heap.size + 2, 0, none⟩)), (8, .pointer (some ⟨D, 0, none⟩))] ac → Code.wp Tryd.prog c_tr_num0 Q ac wo := by
  refine open_tr_num0 (P := fun a => Code.wp Tryd.prog c_tr_num0 Q a wo) ?_
  intro x1 x9 x10 x11 x12 x13 x14 x15 x16 x17 x18 x19 x20 x21 x22 x23 x24 x25 x26 x27 x28 x29 x30 x31 x32 x33 x34 x35 x36 x37 x38 x39 x40 x41 x42 x43 x44 x45 x46 x47 x48 x49 x50 x51 x52 x53 x54 x55 x56 x57 x58 x59 x60 x61 x62 x63 x64 x65 x66 x67 x68 x69 x70 x71 x72 x73 x74 x75 x76 x77 x78 x79 x80 x81 x82 x83 x84 x85 x86 x87 x88 x89 x90 x91 x92 x93 x94 x95 x96 x97 x98 x99 x100 x101 x102 x103 x104 x105 x106 x107 x108 x109 x110 x111 x112 x113 x114 x115 x116 x117 x118 x119 x120 x121 x122 x123 x124 x125 x126 x127 x128 x129 x130 x131 x132 x133 x134 x135 x136 x137 x138 x139 x140 x141 x142 x143 x144 x145 x146 x147 x148 x149 x150 x151 x152 x153 x154 x155 x156 x157 x158 x159 x160 x161 x162 x163 x164 x165 x166 x167 x168 x169 x170 x171 x172 x173 x174 x175 x176 x177 x178 x179 x180 x181 x182 x183 x184 x185 x186 x187 x188 x189 x190 x191 x192 x193 x194 x195 x196 x197 x198 x199 x200 x201 x202 x203 x204 x205 x206 x207 x208 x209 x210 x211 x212 x213 x214 x215 x216 x217 x218 x219 x220 x221 x222 x223 x224 x225 x226 x227 x228 x229 x230 x231 x232 x233 x234 x235 x236 x237 x238 x239 x240 x241 x242 x243 x244 x245 x246 x247 x248 x249 x250 x251 x252 x253 x254 x255 x256 x257 x258 x259 x260 x261 x262 x263 x264 x265 x266 x267 x268 x269 x270 x271 x272 x273 x274 x275 x276 x277 x278 x279 x280 x281 x282 x283 x284 x285 x286 x287 x288 x289 x290 x291 x292 x293 x294 x295 x296 x297 x298 x299 x300 x301 x302 x303 x304 x305 x306 x307 x308 x309 x310 x311 x312 x313 x314 x315 x316 x317 x318 x319 x320 x321 x322 x323 x324 x325 x326 x327 x328 x329
  conv => arg 2; whnf
  have HN := Lib.hid hN
  clear hN
  have hw : ((i : Int) + 1) = ((i + 1 : Nat) : Int) := by omega
  have HW := Lib.hid hw
  clear hw
  go_wp2_with fail
  rw [HW.out]
  exact HN.out _ (id ⟨rfl, rfl, rfl, rfl, rfl, rfl, rfl, rfl, rfl, rfl, trivial⟩)
noncomputable def c_tr_num1 : Code := sub [1, 1, 1, 1, 1, 0, 0, 0, 1, 1, 1, 1, 1, 1, 0, 1, 0, 1, 0] (Tryd.f9.body.getD .skip)
set_option maxRecDepth 1000000 in
theorem open_tr_num1 {P : Act → Prop} {v0 v1 v2 v3 v4 v5 v6 v7 : Value} (h : ∀ x1 x9 x10 x11 x12 x13 x14 x15 x16 x17 x18 x19 x20 x21 x22 x23 x24 x25 x26 x27 x28 x29 x30 x31 x32 x33 x34 x35 x36 x37 x38 x39 x40 x41 x42 x43 x44 x45 x46 x47 x48 x49 x50 x51 x52 x53 x54 x55 x56 x57 x58 x59 x60 x61 x62 x63 x64 x65 x66 x67 x68 x69 x70 x71 x72 x73 x74 x75 x76 x77 x78 x79 x80 x81 x82 x83 x84 x85 x86 x87 x88 x89 x90 x91 x92 x93 x94 x95 x96 x97 x98 x99 x100 x101 x102 x103 x104 x105 x106 x107 x108 x109 x110 x111 x112 x113 x114 x115 x116 x117 x118 x119 x120 x121 x122 x123 x124 x125 x126 x127 x128 x129 x130 x131 x132 x133 x134 x135 x136 x137 x138 x139 x140 x141 x142 x143 x144 x145 x146 x147 x148 x149 x150 x151 x152 x153 x154 x155 x156 x157 x158 x159 x160 x161 x162 x163 x164 x165 x166 x167 x168 x169 x170 x171 x172 x173 x174 x175 x176 x177 x178 x179 x180 x181 x182 x183 x184 x185 x186 x187 x188 x189 x190 x191 x192 x193 x194 x195 x196 x197 x198 x199 x200 x201 x202 x203 x204 x205 x206 x207 x208 x209 x210 x211 x212 x213 x214 x215 x216 x217 x218 x219 x220 x221 x222 x223 x224 x225 x226 x227 x228 x229 x230 x231 x232 x233 x234 x235 x236 x237 x238 x239 x240 x241 x242 x243 x244 x245 x246 x247 x248 x249 x250 x251 x252 x253 x254 x255 x256 x257 x258 x259 x260 x261 x262 x263 x264 x265 x266 x267 x268 x269 x270 x271 x272 x273 x274 x275 x276 x277 x278 x279 x280 x281 x282 x283 x284 x285 x286 x287 x288 x289 x290 x291 x292 x293 x294 x295 x296 x297 x298 x299 x300 x301 x302 x303 x304 x305 x306 x307 x308 x309 x310 x311 x312 x313 x314 x315 x316 x317 x318 x319 x320 x321 x322 x323 x324 x325 x326 x327 x328 x329 : Value, P ⟨(v0 :: x1 :: v1 :: v2 :: v3 :: v4 :: v5 :: v6 :: v7 :: x9 :: x10 :: x11 :: x12 :: x13 :: x14 :: x15 :: x16 :: x17 :: x18 :: x19 :: x20 :: x21 :: x22 :: x23 :: x24 :: x25 :: x26 :: x27 :: x28 :: x29 :: x30 :: x31 :: x32 :: x33 :: x34 :: x35 :: x36 :: x37 :: x38 :: x39 :: x40 :: x41 :: x42 :: x43 :: x44 :: x45 :: x46 :: x47 :: x48 :: x49 :: x50 :: x51 :: x52 :: x53 :: x54 :: x55 :: x56 :: x57 :: x58 :: x59 :: x60 :: x61 :: x62 :: x63 :: x64 :: x65 :: x66 :: x67 :: x68 :: x69 :: x70 :: x71 :: x72 :: x73 :: x74 :: x75 :: x76 :: x77 :: x78 :: x79 :: x80 :: x81 :: x82 :: x83 :: x84 :: x85 :: x86 :: x87 :: x88 :: x89 :: x90 :: x91 :: x92 :: x93 :: x94 :: x95 :: x96 :: x97 :: x98 :: x99 :: x100 :: x101 :: x102 :: x103 :: x104 :: x105 :: x106 :: x107 :: x108 :: x109 :: x110 :: x111 :: x112 :: x113 :: x114 :: x115 :: x116 :: x117 :: x118 :: x119 :: x120 :: x121 :: x122 :: x123 :: x124 :: x125 :: x126 :: x127 :: x128 :: x129 :: x130 :: x131 :: x132 :: x133 :: x134 :: x135 :: x136 :: x137 :: x138 :: x139 :: x140 :: x141 :: x142 :: x143 :: x144 :: x145 :: x146 :: x147 :: x148 :: x149 :: x150 :: x151 :: x152 :: x153 :: x154 :: x155 :: x156 :: x157 :: x158 :: x159 :: x160 :: x161 :: x162 :: x163 :: x164 :: x165 :: x166 :: x167 :: x168 :: x169 :: x170 :: x171 :: x172 :: x173 :: x174 :: x175 :: x176 :: x177 :: x178 :: x179 :: x180 :: x181 :: x182 :: x183 :: x184 :: x185 :: x186 :: x187 :: x188 :: x189 :: x190 :: x191 :: x192 :: x193 :: x194 :: x195 :: x196 :: x197 :: x198 :: x199 :: x200 :: x201 :: x202 :: x203 :: x204 :: x205 :: x206 :: x207 :: x208 :: x209 :: x210 :: x211 :: x212 :: x213 :: x214 :: x215 :: x216 :: x217 :: x218 :: x219 :: x220 :: x221 :: x222 :: x223 :: x224 :: x225 :: x226 :: x227 :: x228 :: x229 :: x230 :: x231 :: x232 :: x233 :: x234 :: x235 :: x236 :: x237 :: x238 :: x239 :: x240 :: x241 :: x242 :: x243 :: x244 :: x245 :: x246 :: x247 :: x248 :: x249 :: x250 :: x251 :: x252 :: x253 :: x254 :: x255 :: x256 :: x257 :: x258 :: x259 :: x260 :: x261 :: x262 :: x263 :: x264 :: x265 :: x266 :: x267 :: x268 :: x269 :: x270 :: x271 :: x272 :: x273 :: x274 :: x275 :: x276 :: x277 :: x278 :: x279 :: x280 :: x281 :: x282 :: x283 :: x284 :: x285 :: x286 :: x287 :: x288 :: x289 :: x290 :: x291 :: x292 :: x293 :: x294 :: x295 :: x296 :: x297 :: x298 :: x299 :: x300 :: x301 :: x302 :: x303 :: x304 :: x305 :: x306 :: x307 :: x308 :: x309 :: x310 :: x311 :: x312 :: x313 :: x314 :: x315 :: x316 :: x317 :: x318 :: x319 :: x320 :: x321 :: x322 :: x323 :: x324 :: x325 :: x326 :: x327 :: x328 :: x329 :: []).toArray, []⟩) : ∀ a, Frm 330 [(0, v0), (2, v1), (3, v2), (4, v3), (5, v4), (6, v5), (7, v6), (8, v7)] a → P a := by
  rintro a ⟨h1, h2, e0, e1, e2, e3, e4, e5, e6, e7, _⟩
  revert e0 e1 e2 e3 e4 e5 e6 e7
  refine frame_tr (P := fun a => a.tmps.toList[0]? = some v0 → a.tmps.toList[2]? = some v1 → a.tmps.toList[3]? = some v2 → a.tmps.toList[4]? = some v3 → a.tmps.toList[5]? = some v4 → a.tmps.toList[6]? = some v5 → a.tmps.toList[7]? = some v6 → a.tmps.toList[8]? = some v7 → P a) ?_ a h1 h2
  intro x0 x1 x2 x3 x4 x5 x6 x7 x8 x9 x10 x11 x12 x13 x14 x15 x16 x17 x18 x19 x20 x21 x22 x23 x24 x25 x26 x27 x28 x29 x30 x31 x32 x33 x34 x35 x36 x37 x38 x39 x40 x41 x42 x43 x44 x45 x46 x47 x48 x49 x50 x51 x52 x53 x54 x55 x56 x57 x58 x59 x60 x61 x62 x63 x64 x65 x66 x67 x68 x69 x70 x71 x72 x73 x74 x75 x76 x77 x78 x79 x80 x81 x82 x83 x84 x85 x86 x87 x88 x89 x90 x91 x92 x93 x94 x95 x96 x97 x98 x99 x100 x101 x102 x103 x104 x105 x106 x107 x108 x109 x110 x111 x112 x113 x114 x115 x116 x117 x118 x119 x120 x121 x122 x123 x124 x125 x126 x127 x128 x129 x130 x131 x132 x133 x134 x135 x136 x137 x138 x139 x140 x141 x142 x143 x144 x145 x146 x147 x148 x149 x150 x151 x152 x153 x154 x155 x156 x157 x158 x159 x160 x161 x162 x163 x164 x165 x166 x167 x168 x169 x170 x171 x172 x173 x174 x175 x176 x177 x178 x179 x180 x181 x182 x183 x184 x185 x186 x187 x188 x189 x190 x191 x192 x193 x194 x195 x196 x197 x198 x199 x200 x201 x202 x203 x204 x205 x206 x207 x208 x209 x210 x211 x212 x213 x214 x215 x216 x217 x218 x219 x220 x221 x222 x223 x224 x225 x226 x227 x228 x229 x230 x231 x232 x233 x234 x235 x236 x237 x238 x239 x240 x241 x242 x243 x244 x245 x246 x247 x248 x249 x250 x251 x252 x253 x254 x255 x256 x257 x258 x259 x260 x261 x262 x263 x264 x265 x266 x267 x268 x269 x270 x271 x272 x273 x274 x275 x276 x277 x278 x279 x280 x281 x282 x283 x284 x285 x286 x287 x288 x289 x290 x291 x292 x293 x294 x295 x296 x297 x298 x299 x300 x301 x302 x303 x304 x305 x306 x307 x308 x309 x310 x311 x312 x313 x314 x315 x316 x317 x318 x319 x320 x321 x322 x323 x324 x325 x326 x327 x328 x329 e0 e1 e2 e3 e4 e5 e6 e7
  obtain rfl : x0 = v0 := Option.some.inj e0
  obtain rfl : x2 = v1 := Option.some.inj e1
  obtain rfl : x3 = v2 := Option.some.inj e2
  obtain rfl : x4 = v3 := Option.some.inj e3
  obtain rfl : x5 = v4 := Option.some.inj e4
  obtain rfl : x6 = v5 := Option.some.inj e5
  obtain rfl : x7 = v6 := Option.some.inj e6
  obtain rfl : x8 = v7 := Option.some.inj e7
  exact h x1 x9 x10 x11 x12 x13 x14 x15 x16 x17 x18 x19 x20 x21 x22 x23 x24 x25 x26 x27 x28 x29 x30 x31 x32 x33 x34 x35 x36 x37 x38 x39 x40 x41 x42 x43 x44 x45 x46 x47 x48 x49 x50 x51 x52 x53 x54 x55 x56 x57 x58 x59 x60 x61 x62 x63 x64 x65 x66 x67 x68 x69 x70 x71 x72 x73 x74 x75 x76 x77 x78 x79 x80 x81 x82 x83 x84 x85 x86 x87 x88 x89 x90 x91 x92 x93 x94 x95 x96 x97 x98 x99 x100 x101 x102 x103 x104 x105 x106 x107 x108 x109 x110 x111 x112 x113 x114 x115 x116 x117 x118 x119 x120 x121 x122 x123 x124 x125 x126 x127 x128 x129 x130 x131 x132 x133 x134 x135 x136 x137 x138 x139 x140 x141 x142 x143 x144 x145 x146 x147 x148 x149 x150 x151 x152 x153 x154 x155 x156 x157 x158 x159 x160 x161 x162 x163 x164 x165 x166 x167 x168 x169 x170 x171 x172 x173 x174 x175 x176 x177 x178 x179 x180 x181 x182 x183 x184 x185 x186 x187 x188 x189 x190 x191 x192 x193 x194 x195 x196 x197 x198 x199 x200 x201 x202 x203 x204 x205 x206 x207 x208 x209 x210 x211 x212 x213 x214 x215 x216 x217 x218 x219 x220 x221 x222 x223 x224 x225 x226 x227 x228 x229 x230 x231 x232 x233 x234 x235 x236 x237 x238 x239 x240 x241 x242 x243 x244 x245 x246 x247 x248 x249 x250 x251 x252 x253 x254 x255 x256 x257 x258 x259 x260 x261 x262 x263 x264 x265 x266 x267 x268 x269 x270 x271 x272 x273 x274 x275 x276 x277 x278 x279 x280 x281 x282 x283 x284 x285 x286 x287 x288 x289 x290 x291 x292 x293 x294 x295 x296 x297 x298 x299 x300 x301 x302 x303 x304 x305 x306 x307 x308 x309 x310 x311 x312 x313 x314 x315 x316 x317 x318 x319 x320 x321 x322 x323 x324 x325 x326 x327 x328 x329
set_option maxRecDepth 1000000 in
set_option maxHeartbeats 16000000 in
theorem tr_num1_wp {Q : Exit → Act → World → Prop} {x : ByteArray} {w : World} {frs : List F7} {Aq : Option Addr} {cq i n : Nat} {wo : World} {D : Nat} (hN : ∀ a', Frm 330 [(0, .string x), (2, .pointer (some ⟨w.heap.size, 0, none⟩)), (3, .pointer (some ⟨w.heap.size + 1, 0, none⟩)), (4, .slice Aq frs.length cq), (5, .int .i64 (i : Nat)), (6, .int .i64 (n : Nat)), (7, .pointer (some ⟨w.heap.size + 2, 0, none⟩)), (8, .pointer (some ⟨D, 0, none⟩)), (12, .int .i64 (i : Nat))] a' → Q .normal a' wo) : ∀ ac, Frm 330 [(0, .string x), (2, .pointer (some ⟨w.heap.size, 0, none⟩)), (3, .pointer (some ⟨w.heap.size + 1, 0, none⟩)), (4, .slice Aq frs.length cq), (5, .int .i64 (i : Nat)), (6, .int .i64 (n : Nat)), (7, .pointer (some ⟨w.heap.size + 2, 0, none⟩)), (8, .pointer (some ⟨D, 0, none⟩))] ac → Code.wp Tryd.prog c_tr_num1 Q ac wo := by
  refine open_tr_num1 (P := fun a => Code.wp Tryd.prog c_tr_num1 Q a wo) ?_
  intro x1 x9 x10 x11 x12 x13 x14 x15 x16 x17 x18 x19 x20 x21 x22 x23 x24 x25 x26 x27 x28 x29 x30 x31 x32 x33 x34 x35 x36 x37 x38 x39 x40 x41 x42 x43 x44 x45 x46 x47 x48 x49 x50 x51 x52 x53 x54 x55 x56 x57 x58 x59 x60 x61 x62 x63 x64 x65 x66 x67 x68 x69 x70 x71 x72 x73 x74 x75 x76 x77 x78 x79 x80 x81 x82 x83 x84 x85 x86 x87 x88 x89 x90 x91 x92 x93 x94 x95 x96 x97 x98 x99 x100 x101 x102 x103 x104 x105 x106 x107 x108 x109 x110 x111 x112 x113 x114 x115 x116 x117 x118 x119 x120 x121 x122 x123 x124 x125 x126 x127 x128 x129 x130 x131 x132 x133 x134 x135 x136 x137 x138 x139 x140 x141 x142 x143 x144 x145 x146 x147 x148 x149 x150 x151 x152 x153 x154 x155 x156 x157 x158 x159 x160 x161 x162 x163 x164 x165 x166 x167 x168 x169 x170 x171 x172 x173 x174 x175 x176 x177 x178 x179 x180 x181 x182 x183 x184 x185 x186 x187 x188 x189 x190 x191 x192 x193 x194 x195 x196 x197 x198 x199 x200 x201 x202 x203 x204 x205 x206 x207 x208 x209 x210 x211 x212 x213 x214 x215 x216 x217 x218 x219 x220 x221 x222 x223 x224 x225 x226 x227 x228 x229 x230 x231 x232 x233 x234 x235 x236 x237 x238 x239 x240 x241 x242 x243 x244 x245 x246 x247 x248 x249 x250 x251 x252 x253 x254 x255 x256 x257 x258 x259 x260 x261 x262 x263 x264 x265 x266 x267 x268 x269 x270 x271 x272 x273 x274 x275 x276 x277 x278 x279 x280 x281 x282 x283 x284 x285 x286 x287 x288 x289 x290 x291 x292 x293 x294 x295 x296 x297 x298 x299 x300 x301 x302 x303 x304 x305 x306 x307 x308 x309 x310 x311 x312 x313 x314 x315 x316 x317 x318 x319 x320 x321 x322 x323 x324 x325 x326 x327 x328 x329
  conv => arg 2; whnf
  have HN := Lib.hid hN
  clear hN
  go_wp2_with fail
  exact HN.out _ (id ⟨rfl, rfl, rfl, rfl, rfl, rfl, rfl, rfl, rfl, rfl, rfl, trivial⟩)
noncomputable def c_tr_num2 : Code := sub [1, 1, 1, 1, 1, 0, 0, 0, 1, 1, 1, 1, 1, 1, 0, 1, 0, 1, 1, 0] (Tryd.f9.body.getD .skip)
set_option maxRecDepth 1000000 in
theorem open_tr_num2 {P : Act → Prop} {v0 v1 v2 v3 v4 v5 v6 v7 v8 : Value} (h : ∀ x1 x9 x10 x11 x13 x14 x15 x16 x17 x18 x19 x20 x21 x22 x23 x24 x25 x26 x27 x28 x29 x30 x31 x32 x33 x34 x35 x36 x37 x38 x39 x40 x41 x42 x43 x44 x45 x46 x47 x48 x49 x50 x51 x52 x53 x54 x55 x56 x57 x58 x59 x60 x61 x62 x63 x64 x65 x66 x67 x68 x69 x70 x71 x72 x73 x74 x75 x76 x77 x78 x79 x80 x81 x82 x83 x84 x85 x86 x87 x88 x89 x90 x91 x92 x93 x94 x95 x96 x97 x98 x99 x100 x101 x102 x103 x104 x105 x106 x107 x108 x109 x110 x111 x112 x113 x114 x115 x116 x117 x118 x119 x120 x121 x122 x123 x124 x125 x126 x127 x128 x129 x130 x131 x132 x133 x134 x135 x136 x137 x138 x139 x140 x141 x142 x143 x144 x145 x146 x147 x148 x149 x150 x151 x152 x153 x154 x155 x156 x157 x158 x159 x160 x161 x162 x163 x164 x165 x166 x167 x168 x169 x170 x171 x172 x173 x174 x175 x176 x177 x178 x179 x180 x181 x182 x183 x184 x185 x186 x187 x188 x189 x190 x191 x192 x193 x194 x195 x196 x197 x198 x199 x200 x201 x202 x203 x204 x205 x206 x207 x208 x209 x210 x211 x212 x213 x214 x215 x216 x217 x218 x219 x220 x221 x222 x223 x224 x225 x226 x227 x228 x229 x230 x231 x232 x233 x234 x235 x236 x237 x238 x239 x240 x241 x242 x243 x244 x245 x246 x247 x248 x249 x250 x251 x252 x253 x254 x255 x256 x257 x258 x259 x260 x261 x262 x263 x264 x265 x266 x267 x268 x269 x270 x271 x272 x273 x274 x275 x276 x277 x278 x279 x280 x281 x282 x283 x284 x285 x286 x287 x288 x289 x290 x291 x292 x293 x294 x295 x296 x297 x298 x299 x300 x301 x302 x303 x304 x305 x306 x307 x308 x309 x310 x311 x312 x313 x314 x315 x316 x317 x318 x319 x320 x321 x322 x323 x324 x325 x326 x327 x328 x329 : Value, P ⟨(v0 :: x1 :: v1 :: v2 :: v3 :: v4 :: v5 :: v6 :: v7 :: x9 :: x10 :: x11 :: v8 :: x13 :: x14 :: x15 :: x16 :: x17 :: x18 :: x19 :: x20 :: x21 :: x22 :: x23 :: x24 :: x25 :: x26 :: x27 :: x28 :: x29 :: x30 :: x31 :: x32 :: x33 :: x34 :: x35 :: x36 :: x37 :: x38 :: x39 :: x40 :: x41 :: x42 :: x43 :: x44 :: x45 :: x46 :: x47 :: x48 :: x49 :: x50 :: x51 :: x52 :: x53 :: x54 :: x55 :: x56 :: x57 :: x58 :: x59 :: x60 :: x61 :: x62 :: x63 :: x64 :: x65 :: x66 :: x67 :: x68 :: x69 :: x70 :: x71 :: x72 :: x73 :: x74 :: x75 :: x76 :: x77 :: x78 :: x79 :: x80 :: x81 :: x82 :: x83 :: x84 :: x85 :: x86 :: x87 :: x88 :: x89 :: x90 :: x91 :: x92 :: x93 :: x94 :: x95 :: x96 :: x97 :: x98 :: x99 :: x100 :: x101 :: x102 :: x103 :: x104 :: x105 :: x106 :: x107 :: x108 :: x109 :: x110 :: x111 :: x112 :: x113 :: x114 :: x115 :: x116 :: x117 :: x118 :: x119 :: x120 :: x121 :: x122 :: x123 :: x124 :: x125 :: x126 :: x127 :: x128 :: x129 :: x130 :: x131 :: x132 :: x133 :: x134 :: x135 :: x136 :: x137 :: x138 :: x139 :: x140 :: x141 :: x142 :: x143 :: x144 :: x145 :: x146 :: x147 :: x148 :: x149 :: x150 :: x151 :: x152 :: x153 :: x154 :: x155 :: x156 :: x157 :: x158 :: x159 :: x160 :: x161 :: x162 :: x163 :: x164 :: x165 :: x166 :: x167 :: x168 :: x169 :: x170 :: x171 :: x172 :: x173 :: x174 :: x175 :: x176 :: x177 :: x178 :: x179 :: x180 :: x181 :: x182 :: x183 :: x184 :: x185 :: x186 :: x187 :: x188 :: x189 :: x190 :: x191 :: x192 :: x193 :: x194 :: x195 :: x196 :: x197 :: x198 :: x199 :: x200 :: x201 :: x202 :: x203 :: x204 :: x205 :: x206 :: x207 :: x208 :: x209 :: x210 :: x211 :: x212 :: x213 :: x214 :: x215 :: x216 :: x217 :: x218 :: x219 :: x220 :: x221 :: x222 :: x223 :: x224 :: x225 :: x226 :: x227 :: x228 :: x229 :: x230 :: x231 :: x232 :: x233 :: x234 :: x235 :: x236 :: x237 :: x238 :: x239 :: x240 :: x241 :: x242 :: x243 :: x244 :: x245 :: x246 :: x247 :: x248 :: x249 :: x250 :: x251 :: x252 :: x253 :: x254 :: x255 :: x256 :: x257 :: x258 :: x259 :: x260 :: x261 :: x262 :: x263 :: x264 :: x265 :: x266 :: x267 :: x268 :: x269 :: x270 :: x271 :: x272 :: x273 :: x274 :: x275 :: x276 :: x277 :: x278 :: x279 :: x280 :: x281 :: x282 :: x283 :: x284 :: x285 :: x286 :: x287 :: x288 :: x289 :: x290 :: x291 :: x292 :: x293 :: x294 :: x295 :: x296 :: x297 :: x298 :: x299 :: x300 :: x301 :: x302 :: x303 :: x304 :: x305 :: x306 :: x307 :: x308 :: x309 :: x310 :: x311 :: x312 :: x313 :: x314 :: x315 :: x316 :: x317 :: x318 :: x319 :: x320 :: x321 :: x322 :: x323 :: x324 :: x325 :: x326 :: x327 :: x328 :: x329 :: []).toArray, []⟩) : ∀ a, Frm 330 [(0, v0), (2, v1), (3, v2), (4, v3), (5, v4), (6, v5), (7, v6), (8, v7), (12, v8)] a → P a := by
  rintro a ⟨h1, h2, e0, e1, e2, e3, e4, e5, e6, e7, e8, _⟩
  revert e0 e1 e2 e3 e4 e5 e6 e7 e8
  refine frame_tr (P := fun a => a.tmps.toList[0]? = some v0 → a.tmps.toList[2]? = some v1 → a.tmps.toList[3]? = some v2 → a.tmps.toList[4]? = some v3 → a.tmps.toList[5]? = some v4 → a.tmps.toList[6]? = some v5 → a.tmps.toList[7]? = some v6 → a.tmps.toList[8]? = some v7 → a.tmps.toList[12]? = some v8 → P a) ?_ a h1 h2
  intro x0 x1 x2 x3 x4 x5 x6 x7 x8 x9 x10 x11 x12 x13 x14 x15 x16 x17 x18 x19 x20 x21 x22 x23 x24 x25 x26 x27 x28 x29 x30 x31 x32 x33 x34 x35 x36 x37 x38 x39 x40 x41 x42 x43 x44 x45 x46 x47 x48 x49 x50 x51 x52 x53 x54 x55 x56 x57 x58 x59 x60 x61 x62 x63 x64 x65 x66 x67 x68 x69 x70 x71 x72 x73 x74 x75 x76 x77 x78 x79 x80 x81 x82 x83 x84 x85 x86 x87 x88 x89 x90 x91 x92 x93 x94 x95 x96 x97 x98 x99 x100 x101 x102 x103 x104 x105 x106 x107 x108 x109 x110 x111 x112 x113 x114 x115 x116 x117 x118 x119 x120 x121 x122 x123 x124 x125 x126 x127 x128 x129 x130 x131 x132 x133 x134 x135 x136 x137 x138 x139 x140 x141 x142 x143 x144 x145 x146 x147 x148 x149 x150 x151 x152 x153 x154 x155 x156 x157 x158 x159 x160 x161 x162 x163 x164 x165 x166 x167 x168 x169 x170 x171 x172 x173 x174 x175 x176 x177 x178 x179 x180 x181 x182 x183 x184 x185 x186 x187 x188 x189 x190 x191 x192 x193 x194 x195 x196 x197 x198 x199 x200 x201 x202 x203 x204 x205 x206 x207 x208 x209 x210 x211 x212 x213 x214 x215 x216 x217 x218 x219 x220 x221 x222 x223 x224 x225 x226 x227 x228 x229 x230 x231 x232 x233 x234 x235 x236 x237 x238 x239 x240 x241 x242 x243 x244 x245 x246 x247 x248 x249 x250 x251 x252 x253 x254 x255 x256 x257 x258 x259 x260 x261 x262 x263 x264 x265 x266 x267 x268 x269 x270 x271 x272 x273 x274 x275 x276 x277 x278 x279 x280 x281 x282 x283 x284 x285 x286 x287 x288 x289 x290 x291 x292 x293 x294 x295 x296 x297 x298 x299 x300 x301 x302 x303 x304 x305 x306 x307 x308 x309 x310 x311 x312 x313 x314 x315 x316 x317 x318 x319 x320 x321 x322 x323 x324 x325 x326 x327 x328 x329 e0 e1 e2 e3 e4 e5 e6 e7 e8
  obtain rfl : x0 = v0 := Option.some.inj e0
  obtain rfl : x2 = v1 := Option.some.inj e1
  obtain rfl : x3 = v2 := Option.some.inj e2
  obtain rfl : x4 = v3 := Option.some.inj e3
  obtain rfl : x5 = v4 := Option.some.inj e4
  obtain rfl : x6 = v5 := Option.some.inj e5
  obtain rfl : x7 = v6 := Option.some.inj e6
  obtain rfl : x8 = v7 := Option.some.inj e7
  obtain rfl : x12 = v8 := Option.some.inj e8
  exact h x1 x9 x10 x11 x13 x14 x15 x16 x17 x18 x19 x20 x21 x22 x23 x24 x25 x26 x27 x28 x29 x30 x31 x32 x33 x34 x35 x36 x37 x38 x39 x40 x41 x42 x43 x44 x45 x46 x47 x48 x49 x50 x51 x52 x53 x54 x55 x56 x57 x58 x59 x60 x61 x62 x63 x64 x65 x66 x67 x68 x69 x70 x71 x72 x73 x74 x75 x76 x77 x78 x79 x80 x81 x82 x83 x84 x85 x86 x87 x88 x89 x90 x91 x92 x93 x94 x95 x96 x97 x98 x99 x100 x101 x102 x103 x104 x105 x106 x107 x108 x109 x110 x111 x112 x113 x114 x115 x116 x117 x118 x119 x120 x121 x122 x123 x124 x125 x126 x127 x128 x129 x130 x131 x132 x133 x134 x135 x136 x137 x138 x139 x140 x141 x142 x143 x144 x145 x146 x147 x148 x149 x150 x151 x152 x153 x154 x155 x156 x157 x158 x159 x160 x161 x162 x163 x164 x165 x166 x167 x168 x169 x170 x171 x172 x173 x174 x175 x176 x177 x178 x179 x180 x181 x182 x183 x184 x185 x186 x187 x188 x189 x190 x191 x192 x193 x194 x195 x196 x197 x198 x199 x200 x201 x202 x203 x204 x205 x206 x207 x208 x209 x210 x211 x212 x213 x214 x215 x216 x217 x218 x219 x220 x221 x222 x223 x224 x225 x226 x227 x228 x229 x230 x231 x232 x233 x234 x235 x236 x237 x238 x239 x240 x241 x242 x243 x244 x245 x246 x247 x248 x249 x250 x251 x252 x253 x254 x255 x256 x257 x258 x259 x260 x261 x262 x263 x264 x265 x266 x267 x268 x269 x270 x271 x272 x273 x274 x275 x276 x277 x278 x279 x280 x281 x282 x283 x284 x285 x286 x287 x288 x289 x290 x291 x292 x293 x294 x295 x296 x297 x298 x299 x300 x301 x302 x303 x304 x305 x306 x307 x308 x309 x310 x311 x312 x313 x314 x315 x316 x317 x318 x319 x320 x321 x322 x323 x324 x325 x326 x327 x328 x329
set_option maxRecDepth 1000000 in
set_option maxHeartbeats 16000000 in
theorem tr_num2_wp {Q : Exit → Act → World → Prop} {x : ByteArray} {w : World} {frs : List F7} {Aq : Option Addr} {cq i n : Nat} {wo : World} {D : Nat} (hN : ∀ a', Frm 330 [(0, .string x), (2, .pointer (some ⟨w.heap.size, 0, none⟩)), (3, .pointer (some ⟨w.heap.size + 1, 0, none⟩)), (4, .slice Aq frs.length cq), (5, .int .i64 (i : Nat)), (6, .int .i64 (n : Nat)), (7, .pointer (some ⟨w.heap.size + 2, 0, none⟩)), (8, .pointer (some ⟨D, 0, none⟩)), (12, .int .i64 (i : Nat)), (13, .int .i64 0)] a' → Q .normal a' wo) : ∀ ac, Frm 330 [(0, .string x), (2, .pointer (some ⟨w.heap.size, 0, none⟩)), (3, .pointer (some ⟨w.heap.size + 1, 0, none⟩)), (4, .slice Aq frs.length cq), (5, .int .i64 (i : Nat)), (6, .int .i64 (n : Nat)), (7, .pointer (some ⟨w.heap.size + 2, 0, none⟩)), (8, .pointer (some ⟨D, 0, none⟩)), (12, .int .i64 (i : Nat))] ac → Code.wp Tryd.prog c_tr_num2 Q ac wo := by
  refine open_tr_num2 (P := fun a => Code.wp Tryd.prog c_tr_num2 Q a wo) ?_
  intro x1 x9 x10 x11 x13 x14 x15 x16 x17 x18 x19 x20 x21 x22 x23 x24 x25 x26 x27 x28 x29 x30 x31 x32 x33 x34 x35 x36 x37 x38 x39 x40 x41 x42 x43 x44 x45 x46 x47 x48 x49 x50 x51 x52 x53 x54 x55 x56 x57 x58 x59 x60 x61 x62 x63 x64 x65 x66 x67 x68 x69 x70 x71 x72 x73 x74 x75 x76 x77 x78 x79 x80 x81 x82 x83 x84 x85 x86 x87 x88 x89 x90 x91 x92 x93 x94 x95 x96 x97 x98 x99 x100 x101 x102 x103 x104 x105 x106 x107 x108 x109 x110 x111 x112 x113 x114 x115 x116 x117 x118 x119 x120 x121 x122 x123 x124 x125 x126 x127 x128 x129 x130 x131 x132 x133 x134 x135 x136 x137 x138 x139 x140 x141 x142 x143 x144 x145 x146 x147 x148 x149 x150 x151 x152 x153 x154 x155 x156 x157 x158 x159 x160 x161 x162 x163 x164 x165 x166 x167 x168 x169 x170 x171 x172 x173 x174 x175 x176 x177 x178 x179 x180 x181 x182 x183 x184 x185 x186 x187 x188 x189 x190 x191 x192 x193 x194 x195 x196 x197 x198 x199 x200 x201 x202 x203 x204 x205 x206 x207 x208 x209 x210 x211 x212 x213 x214 x215 x216 x217 x218 x219 x220 x221 x222 x223 x224 x225 x226 x227 x228 x229 x230 x231 x232 x233 x234 x235 x236 x237 x238 x239 x240 x241 x242 x243 x244 x245 x246 x247 x248 x249 x250 x251 x252 x253 x254 x255 x256 x257 x258 x259 x260 x261 x262 x263 x264 x265 x266 x267 x268 x269 x270 x271 x272 x273 x274 x275 x276 x277 x278 x279 x280 x281 x282 x283 x284 x285 x286 x287 x288 x289 x290 x291 x292 x293 x294 x295 x296 x297 x298 x299 x300 x301 x302 x303 x304 x305 x306 x307 x308 x309 x310 x311 x312 x313 x314 x315 x316 x317 x318 x319 x320 x321 x322 x323 x324 x325 x326 x327 x328 x329
  conv => arg 2; whnf
  have HN := Lib.hid hN
  clear hN
  go_wp2_with fail
  exact HN.out _ (id ⟨rfl, rfl, rfl, rfl, rfl, rfl, rfl, rfl, rfl, rfl, rfl, rfl, trivial⟩)
noncomputable def c_tr_numr : Code := sub [1, 1, 1, 1, 1, 0, 0, 0, 1, 1, 1, 1, 1, 1, 0, 1, 0, 1, 1, 1, 0, 0, 0] (Tryd.f9.body.getD .skip)
set_option maxRecDepth 1000000 in
theorem open_tr_numr {P : Act → Prop} {v0 v1 v2 v3 v4 v5 v6 v7 v8 v9 : Value} (h : ∀ x1 x9 x10 x11 x14 x15 x16 x17 x18 x19 x20 x21 x22 x23 x24 x25 x26 x27 x28 x29 x30 x31 x32 x33 x34 x35 x36 x37 x38 x39 x40 x41 x42 x43 x44 x45 x46 x47 x48 x49 x50 x51 x52 x53 x54 x55 x56 x57 x58 x59 x60 x61 x62 x63 x64 x65 x66 x67 x68 x69 x70 x71 x72 x73 x74 x75 x76 x77 x78 x79 x80 x81 x82 x83 x84 x85 x86 x87 x88 x89 x90 x91 x92 x93 x94 x95 x96 x97 x98 x99 x100 x101 x102 x103 x104 x105 x106 x107 x108 x109 x110 x111 x112 x113 x114 x115 x116 x117 x118 x119 x120 x121 x122 x123 x124 x125 x126 x127 x128 x129 x130 x131 x132 x133 x134 x135 x136 x137 x138 x139 x140 x141 x142 x143 x144 x145 x146 x147 x148 x149 x150 x151 x152 x153 x154 x155 x156 x157 x158 x159 x160 x161 x162 x163 x164 x165 x166 x167 x168 x169 x170 x171 x172 x173 x174 x175 x176 x177 x178 x179 x180 x181 x182 x183 x184 x185 x186 x187 x188 x189 x190 x191 x192 x193 x194 x195 x196 x197 x198 x199 x200 x201 x202 x203 x204 x205 x206 x207 x208 x209 x210 x211 x212 x213 x214 x215 x216 x217 x218 x219 x220 x221 x222 x223 x224 x225 x226 x227 x228 x229 x230 x231 x232 x233 x234 x235 x236 x237 x238 x239 x240 x241 x242 x243 x244 x245 x246 x247 x248 x249 x250 x251 x252 x253 x254 x255 x256 x257 x258 x259 x260 x261 x262 x263 x264 x265 x266 x267 x268 x269 x270 x271 x272 x273 x274 x275 x276 x277 x278 x279 x280 x281 x282 x283 x284 x285 x286 x287 x288 x289 x290 x291 x292 x293 x294 x295 x296 x297 x298 x299 x300 x301 x302 x303 x304 x305 x306 x307 x308 x309 x310 x311 x312 x313 x314 x315 x316 x317 x318 x319 x320 x321 x322 x323 x324 x325 x326 x327 x328 x329 : Value, P ⟨(v0 :: x1 :: v1 :: v2 :: v3 :: v4 :: v5 :: v6 :: v7 :: x9 :: x10 :: x11 :: v8 :: v9 :: x14 :: x15 :: x16 :: x17 :: x18 :: x19 :: x20 :: x21 :: x22 :: x23 :: x24 :: x25 :: x26 :: x27 :: x28 :: x29 :: x30 :: x31 :: x32 :: x33 :: x34 :: x35 :: x36 :: x37 :: x38 :: x39 :: x40 :: x41 :: x42 :: x43 :: x44 :: x45 :: x46 :: x47 :: x48 :: x49 :: x50 :: x51 :: x52 :: x53 :: x54 :: x55 :: x56 :: x57 :: x58 :: x59 :: x60 :: x61 :: x62 :: x63 :: x64 :: x65 :: x66 :: x67 :: x68 :: x69 :: x70 :: x71 :: x72 :: x73 :: x74 :: x75 :: x76 :: x77 :: x78 :: x79 :: x80 :: x81 :: x82 :: x83 :: x84 :: x85 :: x86 :: x87 :: x88 :: x89 :: x90 :: x91 :: x92 :: x93 :: x94 :: x95 :: x96 :: x97 :: x98 :: x99 :: x100 :: x101 :: x102 :: x103 :: x104 :: x105 :: x106 :: x107 :: x108 :: x109 :: x110 :: x111 :: x112 :: x113 :: x114 :: x115 :: x116 :: x117 :: x118 :: x119 :: x120 :: x121 :: x122 :: x123 :: x124 :: x125 :: x126 :: x127 :: x128 :: x129 :: x130 :: x131 :: x132 :: x133 :: x134 :: x135 :: x136 :: x137 :: x138 :: x139 :: x140 :: x141 :: x142 :: x143 :: x144 :: x145 :: x146 :: x147 :: x148 :: x149 :: x150 :: x151 :: x152 :: x153 :: x154 :: x155 :: x156 :: x157 :: x158 :: x159 :: x160 :: x161 :: x162 :: x163 :: x164 :: x165 :: x166 :: x167 :: x168 :: x169 :: x170 :: x171 :: x172 :: x173 :: x174 :: x175 :: x176 :: x177 :: x178 :: x179 :: x180 :: x181 :: x182 :: x183 :: x184 :: x185 :: x186 :: x187 :: x188 :: x189 :: x190 :: x191 :: x192 :: x193 :: x194 :: x195 :: x196 :: x197 :: x198 :: x199 :: x200 :: x201 :: x202 :: x203 :: x204 :: x205 :: x206 :: x207 :: x208 :: x209 :: x210 :: x211 :: x212 :: x213 :: x214 :: x215 :: x216 :: x217 :: x218 :: x219 :: x220 :: x221 :: x222 :: x223 :: x224 :: x225 :: x226 :: x227 :: x228 :: x229 :: x230 :: x231 :: x232 :: x233 :: x234 :: x235 :: x236 :: x237 :: x238 :: x239 :: x240 :: x241 :: x242 :: x243 :: x244 :: x245 :: x246 :: x247 :: x248 :: x249 :: x250 :: x251 :: x252 :: x253 :: x254 :: x255 :: x256 :: x257 :: x258 :: x259 :: x260 :: x261 :: x262 :: x263 :: x264 :: x265 :: x266 :: x267 :: x268 :: x269 :: x270 :: x271 :: x272 :: x273 :: x274 :: x275 :: x276 :: x277 :: x278 :: x279 :: x280 :: x281 :: x282 :: x283 :: x284 :: x285 :: x286 :: x287 :: x288 :: x289 :: x290 :: x291 :: x292 :: x293 :: x294 :: x295 :: x296 :: x297 :: x298 :: x299 :: x300 :: x301 :: x302 :: x303 :: x304 :: x305 :: x306 :: x307 :: x308 :: x309 :: x310 :: x311 :: x312 :: x313 :: x314 :: x315 :: x316 :: x317 :: x318 :: x319 :: x320 :: x321 :: x322 :: x323 :: x324 :: x325 :: x326 :: x327 :: x328 :: x329 :: []).toArray, []⟩) : ∀ a, Frm 330 [(0, v0), (2, v1), (3, v2), (4, v3), (5, v4), (6, v5), (7, v6), (8, v7), (12, v8), (13, v9)] a → P a := by
  rintro a ⟨h1, h2, e0, e1, e2, e3, e4, e5, e6, e7, e8, e9, _⟩
  revert e0 e1 e2 e3 e4 e5 e6 e7 e8 e9
  refine frame_tr (P := fun a => a.tmps.toList[0]? = some v0 → a.tmps.toList[2]? = some v1 → a.tmps.toList[3]? = some v2 → a.tmps.toList[4]? = some v3 → a.tmps.toList[5]? = some v4 → a.tmps.toList[6]? = some v5 → a.tmps.toList[7]? = some v6 → a.tmps.toList[8]? = some v7 → a.tmps.toList[12]? = some v8 → a.tmps.toList[13]? = some v9 → P a) ?_ a h1 h2
  intro x0 x1 x2 x3 x4 x5 x6 x7 x8 x9 x10 x11 x12 x13 x14 x15 x16 x17 x18 x19 x20 x21 x22 x23 x24 x25 x26 x27 x28 x29 x30 x31 x32 x33 x34 x35 x36 x37 x38 x39 x40 x41 x42 x43 x44 x45 x46 x47 x48 x49 x50 x51 x52 x53 x54 x55 x56 x57 x58 x59 x60 x61 x62 x63 x64 x65 x66 x67 x68 x69 x70 x71 x72 x73 x74 x75 x76 x77 x78 x79 x80 x81 x82 x83 x84 x85 x86 x87 x88 x89 x90 x91 x92 x93 x94 x95 x96 x97 x98 x99 x100 x101 x102 x103 x104 x105 x106 x107 x108 x109 x110 x111 x112 x113 x114 x115 x116 x117 x118 x119 x120 x121 x122 x123 x124 x125 x126 x127 x128 x129 x130 x131 x132 x133 x134 x135 x136 x137 x138 x139 x140 x141 x142 x143 x144 x145 x146 x147 x148 x149 x150 x151 x152 x153 x154 x155 x156 x157 x158 x159 x160 x161 x162 x163 x164 x165 x166 x167 x168 x169 x170 x171 x172 x173 x174 x175 x176 x177 x178 x179 x180 x181 x182 x183 x184 x185 x186 x187 x188 x189 x190 x191 x192 x193 x194 x195 x196 x197 x198 x199 x200 x201 x202 x203 x204 x205 x206 x207 x208 x209 x210 x211 x212 x213 x214 x215 x216 x217 x218 x219 x220 x221 x222 x223 x224 x225 x226 x227 x228 x229 x230 x231 x232 x233 x234 x235 x236 x237 x238 x239 x240 x241 x242 x243 x244 x245 x246 x247 x248 x249 x250 x251 x252 x253 x254 x255 x256 x257 x258 x259 x260 x261 x262 x263 x264 x265 x266 x267 x268 x269 x270 x271 x272 x273 x274 x275 x276 x277 x278 x279 x280 x281 x282 x283 x284 x285 x286 x287 x288 x289 x290 x291 x292 x293 x294 x295 x296 x297 x298 x299 x300 x301 x302 x303 x304 x305 x306 x307 x308 x309 x310 x311 x312 x313 x314 x315 x316 x317 x318 x319 x320 x321 x322 x323 x324 x325 x326 x327 x328 x329 e0 e1 e2 e3 e4 e5 e6 e7 e8 e9
  obtain rfl : x0 = v0 := Option.some.inj e0
  obtain rfl : x2 = v1 := Option.some.inj e1
  obtain rfl : x3 = v2 := Option.some.inj e2
  obtain rfl : x4 = v3 := Option.some.inj e3
  obtain rfl : x5 = v4 := Option.some.inj e4
  obtain rfl : x6 = v5 := Option.some.inj e5
  obtain rfl : x7 = v6 := Option.some.inj e6
  obtain rfl : x8 = v7 := Option.some.inj e7
  obtain rfl : x12 = v8 := Option.some.inj e8
  obtain rfl : x13 = v9 := Option.some.inj e9
  exact h x1 x9 x10 x11 x14 x15 x16 x17 x18 x19 x20 x21 x22 x23 x24 x25 x26 x27 x28 x29 x30 x31 x32 x33 x34 x35 x36 x37 x38 x39 x40 x41 x42 x43 x44 x45 x46 x47 x48 x49 x50 x51 x52 x53 x54 x55 x56 x57 x58 x59 x60 x61 x62 x63 x64 x65 x66 x67 x68 x69 x70 x71 x72 x73 x74 x75 x76 x77 x78 x79 x80 x81 x82 x83 x84 x85 x86 x87 x88 x89 x90 x91 x92 x93 x94 x95 x96 x97 x98 x99 x100 x101 x102 x103 x104 x105 x106 x107 x108 x109 x110 x111 x112 x113 x114 x115 x116 x117 x118 x119 x120 x121 x122 x123 x124 x125 x126 x127 x128 x129 x130 x131 x132 x133 x134 x135 x136 x137 x138 x139 x140 x141 x142 x143 x144 x145 x146 x147 x148 x149 x150 x151 x152 x153 x154 x155 x156 x157 x158 x159 x160 x161 x162 x163 x164 x165 x166 x167 x168 x169 x170 x171 x172 x173 x174 x175 x176 x177 x178 x179 x180 x181 x182 x183 x184 x185 x186 x187 x188 x189 x190 x191 x192 x193 x194 x195 x196 x197 x198 x199 x200 x201 x202 x203 x204 x205 x206 x207 x208 x209 x210 x211 x212 x213 x214 x215 x216 x217 x218 x219 x220 x221 x222 x223 x224 x225 x226 x227 x228 x229 x230 x231 x232 x233 x234 x235 x236 x237 x238 x239 x240 x241 x242 x243 x244 x245 x246 x247 x248 x249 x250 x251 x252 x253 x254 x255 x256 x257 x258 x259 x260 x261 x262 x263 x264 x265 x266 x267 x268 x269 x270 x271 x272 x273 x274 x275 x276 x277 x278 x279 x280 x281 x282 x283 x284 x285 x286 x287 x288 x289 x290 x291 x292 x293 x294 x295 x296 x297 x298 x299 x300 x301 x302 x303 x304 x305 x306 x307 x308 x309 x310 x311 x312 x313 x314 x315 x316 x317 x318 x319 x320 x321 x322 x323 x324 x325 x326 x327 x328 x329
set_option maxRecDepth 1000000 in
set_option maxHeartbeats 16000000 in
theorem tr_numr_wp {Q : Exit → Act → World → Prop} {x : ByteArray} {w : World} {frs : List F7} {Aq : Option Addr} {cq i n : Nat} {wo : World} {D : Nat} {a f q : Nat} (hx4 : x.size ≤ 4000) (hax : a ≤ x.size) (hq : q < 200) (hZ : f < a → (q = 0 ↔ byteAt x f = 48)) (hE : ¬ (a < x.size ∧ 48 ≤ byteAt x a ∧ byteAt x a ≤ 57 ∧ ¬ (f < a ∧ q = 0) ∧ 10 * q + (byteAt x a - 48) < 200) → ∀ a', Frm 330 [(0, .string x), (2, .pointer (some ⟨w.heap.size, 0, none⟩)), (3, .pointer (some ⟨w.heap.size + 1, 0, none⟩)), (4, .slice Aq frs.length cq), (5, .int .i64 (a : Nat)), (6, .int .i64 (n : Nat)), (7, .pointer (some ⟨w.heap.size + 2, 0, none⟩)), (8, .pointer (some ⟨D, 0, none⟩)), (12, .int .i64 (f : Nat)), (13, .int .i64 (q : Nat))] a' → Q (.exit 2) a' wo) (hG : (a < x.size ∧ 48 ≤ byteAt x a ∧ byteAt x a ≤ 57 ∧ ¬ (f < a ∧ q = 0) ∧ 10 * q + (byteAt x a - 48) < 200) → ∀ a', Frm 330 [(0, .string x), (2, .pointer (some ⟨w.heap.size, 0, none⟩)), (3, .pointer (some ⟨w.heap.size + 1, 0, none⟩)), (4, .slice Aq frs.length cq), (5, .int .i64 (a + 1 : Nat)), (6, .int .i64 (n : Nat)), (7, .pointer (some ⟨w.heap.size + 2, 0, none⟩)), (8, .pointer (some ⟨D, 0, none⟩)), (12, .int .i64 (f : Nat)), (13, .int .i64 (10 * q + (byteAt x a - 48) : Nat))] a' → Q .normal a' wo) : ∀ ac, Frm 330 [(0, .string x), (2, .pointer (some ⟨w.heap.size, 0, none⟩)), (3, .pointer (some ⟨w.heap.size + 1, 0, none⟩)), (4, .slice Aq frs.length cq), (5, .int .i64 (a : Nat)), (6, .int .i64 (n : Nat)), (7, .pointer (some ⟨w.heap.size + 2, 0, none⟩)), (8, .pointer (some ⟨D, 0, none⟩)), (12, .int .i64 (f : Nat)), (13, .int .i64 (q : Nat))] ac → Code.wp Tryd.prog c_tr_numr Q ac wo := by
  refine open_tr_numr (P := fun a => Code.wp Tryd.prog c_tr_numr Q a wo) ?_
  intro x1 x9 x10 x11 x14 x15 x16 x17 x18 x19 x20 x21 x22 x23 x24 x25 x26 x27 x28 x29 x30 x31 x32 x33 x34 x35 x36 x37 x38 x39 x40 x41 x42 x43 x44 x45 x46 x47 x48 x49 x50 x51 x52 x53 x54 x55 x56 x57 x58 x59 x60 x61 x62 x63 x64 x65 x66 x67 x68 x69 x70 x71 x72 x73 x74 x75 x76 x77 x78 x79 x80 x81 x82 x83 x84 x85 x86 x87 x88 x89 x90 x91 x92 x93 x94 x95 x96 x97 x98 x99 x100 x101 x102 x103 x104 x105 x106 x107 x108 x109 x110 x111 x112 x113 x114 x115 x116 x117 x118 x119 x120 x121 x122 x123 x124 x125 x126 x127 x128 x129 x130 x131 x132 x133 x134 x135 x136 x137 x138 x139 x140 x141 x142 x143 x144 x145 x146 x147 x148 x149 x150 x151 x152 x153 x154 x155 x156 x157 x158 x159 x160 x161 x162 x163 x164 x165 x166 x167 x168 x169 x170 x171 x172 x173 x174 x175 x176 x177 x178 x179 x180 x181 x182 x183 x184 x185 x186 x187 x188 x189 x190 x191 x192 x193 x194 x195 x196 x197 x198 x199 x200 x201 x202 x203 x204 x205 x206 x207 x208 x209 x210 x211 x212 x213 x214 x215 x216 x217 x218 x219 x220 x221 x222 x223 x224 x225 x226 x227 x228 x229 x230 x231 x232 x233 x234 x235 x236 x237 x238 x239 x240 x241 x242 x243 x244 x245 x246 x247 x248 x249 x250 x251 x252 x253 x254 x255 x256 x257 x258 x259 x260 x261 x262 x263 x264 x265 x266 x267 x268 x269 x270 x271 x272 x273 x274 x275 x276 x277 x278 x279 x280 x281 x282 x283 x284 x285 x286 x287 x288 x289 x290 x291 x292 x293 x294 x295 x296 x297 x298 x299 x300 x301 x302 x303 x304 x305 x306 x307 x308 x309 x310 x311 x312 x313 x314 x315 x316 x317 x318 x319 x320 x321 x322 x323 x324 x325 x326 x327 x328 x329
  conv => arg 2; whnf
  have ha4 : (a : Int) ≤ 4000 := by omega
  have HZ := Lib.hid hZ
  have HE := Lib.hid hE
  have HG := Lib.hid hG
  clear hZ hE hG
  by_cases hl2 : a < x.size
  case neg =>
    have q1 : ¬ (a : Int) < (x.size : Int) := by omega
    have HF2 := Lib.hid (show ¬ (a < x.size ∧ 48 ≤ byteAt x a ∧ byteAt x a ≤ 57 ∧ ¬ (f < a ∧ q = 0) ∧ 10 * q + (byteAt x a - 48) < 200) from fun h => hl2 h.1)
    go_wp2_with fail
    exact HE.out HF2.out _ (id ⟨rfl, rfl, rfl, rfl, rfl, rfl, rfl, rfl, rfl, rfl, rfl, rfl, trivial⟩)
  have q1 : (a : Int) < (x.size : Int) := by omega
  have hb2 : byteAt x a = (x[a]'hl2).toNat := byteAt_in hl2
  by_cases h48 : 48 ≤ (x[a]'hl2).toNat
  case neg =>
    have q2 : ¬ (48 : Int) ≤ (((x[a]'hl2).toNat : Nat) : Int) := by omega
    have HF2 := Lib.hid (show ¬ (a < x.size ∧ 48 ≤ byteAt x a ∧ byteAt x a ≤ 57 ∧ ¬ (f < a ∧ q = 0) ∧ 10 * q + (byteAt x a - 48) < 200) from fun h => h48 (by rw [← hb2]; exact h.2.1))
    clear hb2 h48
    go_wp2_with fail
    exact HE.out HF2.out _ (id ⟨rfl, rfl, rfl, rfl, rfl, rfl, rfl, rfl, rfl, rfl, rfl, rfl, trivial⟩)
  have q2 : (48 : Int) ≤ (((x[a]'hl2).toNat : Nat) : Int) := by omega
  by_cases h57 : (x[a]'hl2).toNat ≤ 57
  case neg =>
    have q3 : ¬ (((x[a]'hl2).toNat : Nat) : Int) ≤ (57 : Int) := by omega
    have HF2 := Lib.hid (show ¬ (a < x.size ∧ 48 ≤ byteAt x a ∧ byteAt x a ≤ 57 ∧ ¬ (f < a ∧ q = 0) ∧ 10 * q + (byteAt x a - 48) < 200) from fun h => h57 (by rw [← hb2]; exact h.2.2.1))
    clear hb2 h48 h57
    go_wp2_with fail
    exact HE.out HF2.out _ (id ⟨rfl, rfl, rfl, rfl, rfl, rfl, rfl, rfl, rfl, rfl, rfl, rfl, trivial⟩)
  have q3 : (((x[a]'hl2).toNat : Nat) : Int) ≤ (57 : Int) := by omega
  by_cases h200 : 10 * q + ((x[a]'hl2).toNat - 48) < 200
  case neg =>
    have q4 : ¬ (q : Int) * 10 + ((((x[a]'hl2).toNat : Nat) : Int) - 48) < 200 := by omega
    have HF2 := Lib.hid (show ¬ (a < x.size ∧ 48 ≤ byteAt x a ∧ byteAt x a ≤ 57 ∧ ¬ (f < a ∧ q = 0) ∧ 10 * q + (byteAt x a - 48) < 200) from fun h => h200 (by rw [← hb2]; exact h.2.2.2.2))
    clear hb2 h200
    go_wp2_with fail
    exact HE.out HF2.out _ (id ⟨rfl, rfl, rfl, rfl, rfl, rfl, rfl, rfl, rfl, rfl, rfl, rfl, trivial⟩)
  have q4 : (q : Int) * 10 + ((((x[a]'hl2).toNat : Nat) : Int) - 48) < 200 := by omega
  have hnn : (((x[a]'hl2).toNat : Nat) : Int) - 48 = (((x[a]'hl2).toNat - 48 : Nat) : Int) := by omega
  have hsum : (q : Int) * 10 + ((((x[a]'hl2).toNat : Nat) : Int) - 48) = ((10 * q + ((x[a]'hl2).toNat - 48) : Nat) : Int) := by omega
  have hnx : (a : Int) + 1 = ((a + 1 : Nat) : Int) := by omega
  have HSUM := Lib.hid hsum
  have HNX := Lib.hid hnx
  clear hnn hsum hnx
  by_cases hfa : f < a
  case neg =>
    have q5 : ¬ (f : Int) < (a : Int) := by omega
    have HT2 := Lib.hid (show (a < x.size ∧ 48 ≤ byteAt x a ∧ byteAt x a ≤ 57 ∧ ¬ (f < a ∧ q = 0) ∧ 10 * q + (byteAt x a - 48) < 200) from ⟨hl2, by rw [hb2]; exact h48, by rw [hb2]; exact h57, fun h => hfa h.1, by rw [hb2]; exact h200⟩)
    have HB2 := Lib.hid hb2
    clear hb2 h200
    go_wp2_with fail
    rw [HSUM.out, HNX.out]
    have h9 := HG.out HT2.out
    rw [HB2.out] at h9
    exact h9 _ (id ⟨rfl, rfl, rfl, rfl, rfl, rfl, rfl, rfl, rfl, rfl, rfl, rfl, trivial⟩)
  have q5 : (f : Int) < (a : Int) := by omega
  have hl3 : f < x.size := by omega
  have hb3 : byteAt x f = (x[f]'hl3).toNat := byteAt_in hl3
  have hz2 := HZ.out hfa
  rw [hb3] at hz2
  have l0 : (0 : Int) ≤ (f : Int) := by omega
  have l1 : (f : Int) < (x.size : Int) := by omega
  by_cases hz3 : (x[f]'hl3).toNat = 48
  · have q6 : ((((x[f]'hl3).toNat : Nat) : Int) == 48) = true := by rw [hz3]; rfl
    have HF2 := Lib.hid (show ¬ (a < x.size ∧ 48 ≤ byteAt x a ∧ byteAt x a ≤ 57 ∧ ¬ (f < a ∧ q = 0) ∧ 10 * q + (byteAt x a - 48) < 200) from fun h => h.2.2.2.1 ⟨hfa, hz2.2 hz3⟩)
    clear hb2 h200 hb3 hz2 hz3
    go_wp2_with fail
    exact HE.out HF2.out _ (id ⟨rfl, rfl, rfl, rfl, rfl, rfl, rfl, rfl, rfl, rfl, rfl, rfl, trivial⟩)
  · have q6 : ((((x[f]'hl3).toNat : Nat) : Int) == 48) = false := beq_eq_false_iff_ne.2 (by omega)
    have HT2 := Lib.hid (show (a < x.size ∧ 48 ≤ byteAt x a ∧ byteAt x a ≤ 57 ∧ ¬ (f < a ∧ q = 0) ∧ 10 * q + (byteAt x a - 48) < 200) from ⟨hl2, by rw [hb2]; exact h48, by rw [hb2]; exact h57, fun h => hz3 (hz2.1 h.2), by rw [hb2]; exact h200⟩)
    have HB2 := Lib.hid hb2
    clear hb2 h200 hb3 hz2 hz3
    go_wp2_with fail
    rw [HSUM.out, HNX.out]
    have h9 := HG.out HT2.out
    rw [HB2.out] at h9
    exact h9 _ (id ⟨rfl, rfl, rfl, rfl, rfl, rfl, rfl, rfl, rfl, rfl, rfl, rfl, trivial⟩)
noncomputable def c_tr_numl : Code := sub [1, 1, 1, 1, 1, 0, 0, 0, 1, 1, 1, 1, 1, 1, 0, 1, 0, 1, 1, 1, 0, 0] (Tryd.f9.body.getD .skip)
theorem tr_numl_wp {Q : Exit → Act → World → Prop} {x : ByteArray} {w : World} {frs : List F7} {Aq : Option Addr} {cq i n : Nat} {wo : World} {D : Nat} {f : Nat} (hx4 : x.size ≤ 4000) (hf : f ≤ x.size) (hE : ∀ a', Frm 330 [(0, .string x), (2, .pointer (some ⟨w.heap.size, 0, none⟩)), (3, .pointer (some ⟨w.heap.size + 1, 0, none⟩)), (4, .slice Aq frs.length cq), (5, .int .i64 ((numF x f).2 : Nat)), (6, .int .i64 (n : Nat)), (7, .pointer (some ⟨w.heap.size + 2, 0, none⟩)), (8, .pointer (some ⟨D, 0, none⟩)), (12, .int .i64 (f : Nat)), (13, .int .i64 ((numF x f).1 : Nat))] a' → Q (.exit 2) a' wo) : ∀ ac, Frm 330 [(0, .string x), (2, .pointer (some ⟨w.heap.size, 0, none⟩)), (3, .pointer (some ⟨w.heap.size + 1, 0, none⟩)), (4, .slice Aq frs.length cq), (5, .int .i64 (f : Nat)), (6, .int .i64 (n : Nat)), (7, .pointer (some ⟨w.heap.size + 2, 0, none⟩)), (8, .pointer (some ⟨D, 0, none⟩)), (12, .int .i64 (f : Nat)), (13, .int .i64 0)] ac → Code.wp Tryd.prog c_tr_numl Q ac wo := by
  intro a0 hf0
  conv => arg 2; whnf
  refine wp_loopR (fun g a' w' => ∃ a q : Nat, w' = wo ∧ f ≤ a ∧ a ≤ x.size ∧ a + g = x.size + 1 ∧ q < 200 ∧ numG x f g q a = numF x f ∧ (a = f → q = 0) ∧ (f < a → (q = 0 ↔ byteAt x f = 48)) ∧ Frm 330 [(0, .string x), (2, .pointer (some ⟨w.heap.size, 0, none⟩)), (3, .pointer (some ⟨w.heap.size + 1, 0, none⟩)), (4, .slice Aq frs.length cq), (5, .int .i64 (a : Nat)), (6, .int .i64 (n : Nat)), (7, .pointer (some ⟨w.heap.size + 2, 0, none⟩)), (8, .pointer (some ⟨D, 0, none⟩)), (12, .int .i64 (f : Nat)), (13, .int .i64 (q : Nat))] a') (x.size + 1 - f) ⟨f, 0, rfl, Nat.le_refl _, hf, by omega, by omega, rfl, fun _ => rfl, fun h => by omega, hf0⟩ ?_
  rintro g a1 w1 ⟨a, q, rfl, hfa, hax, hag, hq, hg, hq0, hz, hfr⟩
  refine tr_numr_wp (i := 0) hx4 hax hq hz (fun hs a' hf' => ?_) (fun hs a' hf' => ?_) a1 hfr
  · have hE2 : numF x f = (q, a) := hg.symm.trans (numG_stop hs)
    refine hE a' ?_
    rw [hE2]
    exact hf'
  · obtain ⟨g2, rfl⟩ : ∃ g2, g = g2 + 1 := ⟨g - 1, by omega⟩
    rw [numG_go hs] at hg
    refine ⟨g2, Nat.lt_succ_self _, a + 1, 10 * q + (byteAt x a - 48), rfl, by omega, by have := hs.1; omega, by omega, hs.2.2.2.2, hg, fun h => by omega, fun _ => ?_, hf'⟩
    obtain ⟨g1, g3, g4, g5, g6⟩ := hs
    by_cases hfa2 : f < a
    · have := hz hfa2
      constructor
      · intro h; exact absurd ⟨hfa2, by omega⟩ g5
      · intro h; exact absurd ⟨hfa2, this.2 h⟩ g5
    · obtain rfl : a = f := by omega
      obtain rfl := hq0 rfl
      omega
noncomputable def c_tr_nume : Code := sub [1, 1, 1, 1, 1, 0, 0, 0, 1, 1, 1, 1, 1, 1, 0, 1, 0, 1, 1, 1, 1, 0] (Tryd.f9.body.getD .skip)
set_option maxRecDepth 1000000 in
theorem open_tr_nume {P : Act → Prop} {v0 v1 v2 v3 v4 v5 v6 v7 v8 v9 : Value} (h : ∀ x1 x9 x10 x11 x14 x15 x16 x17 x18 x19 x20 x21 x22 x23 x24 x25 x26 x27 x28 x29 x30 x31 x32 x33 x34 x35 x36 x37 x38 x39 x40 x41 x42 x43 x44 x45 x46 x47 x48 x49 x50 x51 x52 x53 x54 x55 x56 x57 x58 x59 x60 x61 x62 x63 x64 x65 x66 x67 x68 x69 x70 x71 x72 x73 x74 x75 x76 x77 x78 x79 x80 x81 x82 x83 x84 x85 x86 x87 x88 x89 x90 x91 x92 x93 x94 x95 x96 x97 x98 x99 x100 x101 x102 x103 x104 x105 x106 x107 x108 x109 x110 x111 x112 x113 x114 x115 x116 x117 x118 x119 x120 x121 x122 x123 x124 x125 x126 x127 x128 x129 x130 x131 x132 x133 x134 x135 x136 x137 x138 x139 x140 x141 x142 x143 x144 x145 x146 x147 x148 x149 x150 x151 x152 x153 x154 x155 x156 x157 x158 x159 x160 x161 x162 x163 x164 x165 x166 x167 x168 x169 x170 x171 x172 x173 x174 x175 x176 x177 x178 x179 x180 x181 x182 x183 x184 x185 x186 x187 x188 x189 x190 x191 x192 x193 x194 x195 x196 x197 x198 x199 x200 x201 x202 x203 x204 x205 x206 x207 x208 x209 x210 x211 x212 x213 x214 x215 x216 x217 x218 x219 x220 x221 x222 x223 x224 x225 x226 x227 x228 x229 x230 x231 x232 x233 x234 x235 x236 x237 x238 x239 x240 x241 x242 x243 x244 x245 x246 x247 x248 x249 x250 x251 x252 x253 x254 x255 x256 x257 x258 x259 x260 x261 x262 x263 x264 x265 x266 x267 x268 x269 x270 x271 x272 x273 x274 x275 x276 x277 x278 x279 x280 x281 x282 x283 x284 x285 x286 x287 x288 x289 x290 x291 x292 x293 x294 x295 x296 x297 x298 x299 x300 x301 x302 x303 x304 x305 x306 x307 x308 x309 x310 x311 x312 x313 x314 x315 x316 x317 x318 x319 x320 x321 x322 x323 x324 x325 x326 x327 x328 x329 : Value, P ⟨(v0 :: x1 :: v1 :: v2 :: v3 :: v4 :: v5 :: v6 :: v7 :: x9 :: x10 :: x11 :: v8 :: v9 :: x14 :: x15 :: x16 :: x17 :: x18 :: x19 :: x20 :: x21 :: x22 :: x23 :: x24 :: x25 :: x26 :: x27 :: x28 :: x29 :: x30 :: x31 :: x32 :: x33 :: x34 :: x35 :: x36 :: x37 :: x38 :: x39 :: x40 :: x41 :: x42 :: x43 :: x44 :: x45 :: x46 :: x47 :: x48 :: x49 :: x50 :: x51 :: x52 :: x53 :: x54 :: x55 :: x56 :: x57 :: x58 :: x59 :: x60 :: x61 :: x62 :: x63 :: x64 :: x65 :: x66 :: x67 :: x68 :: x69 :: x70 :: x71 :: x72 :: x73 :: x74 :: x75 :: x76 :: x77 :: x78 :: x79 :: x80 :: x81 :: x82 :: x83 :: x84 :: x85 :: x86 :: x87 :: x88 :: x89 :: x90 :: x91 :: x92 :: x93 :: x94 :: x95 :: x96 :: x97 :: x98 :: x99 :: x100 :: x101 :: x102 :: x103 :: x104 :: x105 :: x106 :: x107 :: x108 :: x109 :: x110 :: x111 :: x112 :: x113 :: x114 :: x115 :: x116 :: x117 :: x118 :: x119 :: x120 :: x121 :: x122 :: x123 :: x124 :: x125 :: x126 :: x127 :: x128 :: x129 :: x130 :: x131 :: x132 :: x133 :: x134 :: x135 :: x136 :: x137 :: x138 :: x139 :: x140 :: x141 :: x142 :: x143 :: x144 :: x145 :: x146 :: x147 :: x148 :: x149 :: x150 :: x151 :: x152 :: x153 :: x154 :: x155 :: x156 :: x157 :: x158 :: x159 :: x160 :: x161 :: x162 :: x163 :: x164 :: x165 :: x166 :: x167 :: x168 :: x169 :: x170 :: x171 :: x172 :: x173 :: x174 :: x175 :: x176 :: x177 :: x178 :: x179 :: x180 :: x181 :: x182 :: x183 :: x184 :: x185 :: x186 :: x187 :: x188 :: x189 :: x190 :: x191 :: x192 :: x193 :: x194 :: x195 :: x196 :: x197 :: x198 :: x199 :: x200 :: x201 :: x202 :: x203 :: x204 :: x205 :: x206 :: x207 :: x208 :: x209 :: x210 :: x211 :: x212 :: x213 :: x214 :: x215 :: x216 :: x217 :: x218 :: x219 :: x220 :: x221 :: x222 :: x223 :: x224 :: x225 :: x226 :: x227 :: x228 :: x229 :: x230 :: x231 :: x232 :: x233 :: x234 :: x235 :: x236 :: x237 :: x238 :: x239 :: x240 :: x241 :: x242 :: x243 :: x244 :: x245 :: x246 :: x247 :: x248 :: x249 :: x250 :: x251 :: x252 :: x253 :: x254 :: x255 :: x256 :: x257 :: x258 :: x259 :: x260 :: x261 :: x262 :: x263 :: x264 :: x265 :: x266 :: x267 :: x268 :: x269 :: x270 :: x271 :: x272 :: x273 :: x274 :: x275 :: x276 :: x277 :: x278 :: x279 :: x280 :: x281 :: x282 :: x283 :: x284 :: x285 :: x286 :: x287 :: x288 :: x289 :: x290 :: x291 :: x292 :: x293 :: x294 :: x295 :: x296 :: x297 :: x298 :: x299 :: x300 :: x301 :: x302 :: x303 :: x304 :: x305 :: x306 :: x307 :: x308 :: x309 :: x310 :: x311 :: x312 :: x313 :: x314 :: x315 :: x316 :: x317 :: x318 :: x319 :: x320 :: x321 :: x322 :: x323 :: x324 :: x325 :: x326 :: x327 :: x328 :: x329 :: []).toArray, []⟩) : ∀ a, Frm 330 [(0, v0), (2, v1), (3, v2), (4, v3), (5, v4), (6, v5), (7, v6), (8, v7), (12, v8), (13, v9)] a → P a := by
  rintro a ⟨h1, h2, e0, e1, e2, e3, e4, e5, e6, e7, e8, e9, _⟩
  revert e0 e1 e2 e3 e4 e5 e6 e7 e8 e9
  refine frame_tr (P := fun a => a.tmps.toList[0]? = some v0 → a.tmps.toList[2]? = some v1 → a.tmps.toList[3]? = some v2 → a.tmps.toList[4]? = some v3 → a.tmps.toList[5]? = some v4 → a.tmps.toList[6]? = some v5 → a.tmps.toList[7]? = some v6 → a.tmps.toList[8]? = some v7 → a.tmps.toList[12]? = some v8 → a.tmps.toList[13]? = some v9 → P a) ?_ a h1 h2
  intro x0 x1 x2 x3 x4 x5 x6 x7 x8 x9 x10 x11 x12 x13 x14 x15 x16 x17 x18 x19 x20 x21 x22 x23 x24 x25 x26 x27 x28 x29 x30 x31 x32 x33 x34 x35 x36 x37 x38 x39 x40 x41 x42 x43 x44 x45 x46 x47 x48 x49 x50 x51 x52 x53 x54 x55 x56 x57 x58 x59 x60 x61 x62 x63 x64 x65 x66 x67 x68 x69 x70 x71 x72 x73 x74 x75 x76 x77 x78 x79 x80 x81 x82 x83 x84 x85 x86 x87 x88 x89 x90 x91 x92 x93 x94 x95 x96 x97 x98 x99 x100 x101 x102 x103 x104 x105 x106 x107 x108 x109 x110 x111 x112 x113 x114 x115 x116 x117 x118 x119 x120 x121 x122 x123 x124 x125 x126 x127 x128 x129 x130 x131 x132 x133 x134 x135 x136 x137 x138 x139 x140 x141 x142 x143 x144 x145 x146 x147 x148 x149 x150 x151 x152 x153 x154 x155 x156 x157 x158 x159 x160 x161 x162 x163 x164 x165 x166 x167 x168 x169 x170 x171 x172 x173 x174 x175 x176 x177 x178 x179 x180 x181 x182 x183 x184 x185 x186 x187 x188 x189 x190 x191 x192 x193 x194 x195 x196 x197 x198 x199 x200 x201 x202 x203 x204 x205 x206 x207 x208 x209 x210 x211 x212 x213 x214 x215 x216 x217 x218 x219 x220 x221 x222 x223 x224 x225 x226 x227 x228 x229 x230 x231 x232 x233 x234 x235 x236 x237 x238 x239 x240 x241 x242 x243 x244 x245 x246 x247 x248 x249 x250 x251 x252 x253 x254 x255 x256 x257 x258 x259 x260 x261 x262 x263 x264 x265 x266 x267 x268 x269 x270 x271 x272 x273 x274 x275 x276 x277 x278 x279 x280 x281 x282 x283 x284 x285 x286 x287 x288 x289 x290 x291 x292 x293 x294 x295 x296 x297 x298 x299 x300 x301 x302 x303 x304 x305 x306 x307 x308 x309 x310 x311 x312 x313 x314 x315 x316 x317 x318 x319 x320 x321 x322 x323 x324 x325 x326 x327 x328 x329 e0 e1 e2 e3 e4 e5 e6 e7 e8 e9
  obtain rfl : x0 = v0 := Option.some.inj e0
  obtain rfl : x2 = v1 := Option.some.inj e1
  obtain rfl : x3 = v2 := Option.some.inj e2
  obtain rfl : x4 = v3 := Option.some.inj e3
  obtain rfl : x5 = v4 := Option.some.inj e4
  obtain rfl : x6 = v5 := Option.some.inj e5
  obtain rfl : x7 = v6 := Option.some.inj e6
  obtain rfl : x8 = v7 := Option.some.inj e7
  obtain rfl : x12 = v8 := Option.some.inj e8
  obtain rfl : x13 = v9 := Option.some.inj e9
  exact h x1 x9 x10 x11 x14 x15 x16 x17 x18 x19 x20 x21 x22 x23 x24 x25 x26 x27 x28 x29 x30 x31 x32 x33 x34 x35 x36 x37 x38 x39 x40 x41 x42 x43 x44 x45 x46 x47 x48 x49 x50 x51 x52 x53 x54 x55 x56 x57 x58 x59 x60 x61 x62 x63 x64 x65 x66 x67 x68 x69 x70 x71 x72 x73 x74 x75 x76 x77 x78 x79 x80 x81 x82 x83 x84 x85 x86 x87 x88 x89 x90 x91 x92 x93 x94 x95 x96 x97 x98 x99 x100 x101 x102 x103 x104 x105 x106 x107 x108 x109 x110 x111 x112 x113 x114 x115 x116 x117 x118 x119 x120 x121 x122 x123 x124 x125 x126 x127 x128 x129 x130 x131 x132 x133 x134 x135 x136 x137 x138 x139 x140 x141 x142 x143 x144 x145 x146 x147 x148 x149 x150 x151 x152 x153 x154 x155 x156 x157 x158 x159 x160 x161 x162 x163 x164 x165 x166 x167 x168 x169 x170 x171 x172 x173 x174 x175 x176 x177 x178 x179 x180 x181 x182 x183 x184 x185 x186 x187 x188 x189 x190 x191 x192 x193 x194 x195 x196 x197 x198 x199 x200 x201 x202 x203 x204 x205 x206 x207 x208 x209 x210 x211 x212 x213 x214 x215 x216 x217 x218 x219 x220 x221 x222 x223 x224 x225 x226 x227 x228 x229 x230 x231 x232 x233 x234 x235 x236 x237 x238 x239 x240 x241 x242 x243 x244 x245 x246 x247 x248 x249 x250 x251 x252 x253 x254 x255 x256 x257 x258 x259 x260 x261 x262 x263 x264 x265 x266 x267 x268 x269 x270 x271 x272 x273 x274 x275 x276 x277 x278 x279 x280 x281 x282 x283 x284 x285 x286 x287 x288 x289 x290 x291 x292 x293 x294 x295 x296 x297 x298 x299 x300 x301 x302 x303 x304 x305 x306 x307 x308 x309 x310 x311 x312 x313 x314 x315 x316 x317 x318 x319 x320 x321 x322 x323 x324 x325 x326 x327 x328 x329
set_option maxRecDepth 1000000 in
set_option maxHeartbeats 16000000 in
theorem tr_nume_wp {Q : Exit → Act → World → Prop} {x : ByteArray} {w : World} {frs : List F7} {Aq : Option Addr} {cq i n : Nat} {wo : World} {D : Nat} {a f q : Nat} (hm : TMem w wo frs Aq cq (D)) (hblk : ∀ b, (Value.slice Aq frs.length cq).ownBlock = some b → w.heap.size + 3 ≤ b ∧ b < D) (hR : a = f → ∀ a' w', Frm 330 [(2, .pointer (some ⟨w.heap.size, 0, none⟩)), (3, .pointer (some ⟨w.heap.size + 1, 0, none⟩))] a' → w'.heap[w.heap.size]? = some (.cells #[.int .i64 0, .string ⟨#[]⟩, .int .i64 0, .string ⟨#[]⟩, .slice none 0 0, .slice none 0 0] 27 (0, 0)) → w'.heap[w.heap.size + 1]? = some (.cells #[.int .i64 11, .int .i64 (a : Nat)] 29 (0, 0)) → Below w.heap.size w w' → Q .ret a' w') (hN : ¬ a = f → ∀ a', Frm 330 [(0, .string x), (2, .pointer (some ⟨w.heap.size, 0, none⟩)), (3, .pointer (some ⟨w.heap.size + 1, 0, none⟩)), (4, .slice Aq frs.length cq), (5, .int .i64 (a : Nat)), (6, .int .i64 (n : Nat)), (7, .pointer (some ⟨w.heap.size + 2, 0, none⟩)), (8, .pointer (some ⟨D, 0, none⟩)), (12, .int .i64 (f : Nat)), (13, .int .i64 (q : Nat))] a' → Q .normal a' wo) : ∀ ac, Frm 330 [(0, .string x), (2, .pointer (some ⟨w.heap.size, 0, none⟩)), (3, .pointer (some ⟨w.heap.size + 1, 0, none⟩)), (4, .slice Aq frs.length cq), (5, .int .i64 (a : Nat)), (6, .int .i64 (n : Nat)), (7, .pointer (some ⟨w.heap.size + 2, 0, none⟩)), (8, .pointer (some ⟨D, 0, none⟩)), (12, .int .i64 (f : Nat)), (13, .int .i64 (q : Nat))] ac → Code.wp Tryd.prog c_tr_nume Q ac wo := by
  refine open_tr_nume (P := fun a => Code.wp Tryd.prog c_tr_nume Q a wo) ?_
  intro x1 x9 x10 x11 x14 x15 x16 x17 x18 x19 x20 x21 x22 x23 x24 x25 x26 x27 x28 x29 x30 x31 x32 x33 x34 x35 x36 x37 x38 x39 x40 x41 x42 x43 x44 x45 x46 x47 x48 x49 x50 x51 x52 x53 x54 x55 x56 x57 x58 x59 x60 x61 x62 x63 x64 x65 x66 x67 x68 x69 x70 x71 x72 x73 x74 x75 x76 x77 x78 x79 x80 x81 x82 x83 x84 x85 x86 x87 x88 x89 x90 x91 x92 x93 x94 x95 x96 x97 x98 x99 x100 x101 x102 x103 x104 x105 x106 x107 x108 x109 x110 x111 x112 x113 x114 x115 x116 x117 x118 x119 x120 x121 x122 x123 x124 x125 x126 x127 x128 x129 x130 x131 x132 x133 x134 x135 x136 x137 x138 x139 x140 x141 x142 x143 x144 x145 x146 x147 x148 x149 x150 x151 x152 x153 x154 x155 x156 x157 x158 x159 x160 x161 x162 x163 x164 x165 x166 x167 x168 x169 x170 x171 x172 x173 x174 x175 x176 x177 x178 x179 x180 x181 x182 x183 x184 x185 x186 x187 x188 x189 x190 x191 x192 x193 x194 x195 x196 x197 x198 x199 x200 x201 x202 x203 x204 x205 x206 x207 x208 x209 x210 x211 x212 x213 x214 x215 x216 x217 x218 x219 x220 x221 x222 x223 x224 x225 x226 x227 x228 x229 x230 x231 x232 x233 x234 x235 x236 x237 x238 x239 x240 x241 x242 x243 x244 x245 x246 x247 x248 x249 x250 x251 x252 x253 x254 x255 x256 x257 x258 x259 x260 x261 x262 x263 x264 x265 x266 x267 x268 x269 x270 x271 x272 x273 x274 x275 x276 x277 x278 x279 x280 x281 x282 x283 x284 x285 x286 x287 x288 x289 x290 x291 x292 x293 x294 x295 x296 x297 x298 x299 x300 x301 x302 x303 x304 x305 x306 x307 x308 x309 x310 x311 x312 x313 x314 x315 x316 x317 x318 x319 x320 x321 x322 x323 x324 x325 x326 x327 x328 x329
  conv => arg 2; whnf
  have HR := Lib.hid hR
  have HN := Lib.hid hN
  clear hR hN
  have hbz := FsOk.base hm.fs
  obtain ⟨hown, hfrs, ⟨pz, pf, pn⟩, hB⟩ := hm
  have HOWN := Lib.hid hown
  have HFRS := Lib.hid hfrs
  have HB := Lib.hid hB
  have HBLK := Lib.hid hblk
  clear hown hfrs hB hblk
  have pz_0 := cv0 pz
  have pz_1 := cv1 pz
  have pz_2 := cv2 pz
  have pz_3 := cv3 pz
  have pz_4 := cv4 pz
  have pz_5 := cv5 pz
  have pz_f0 := free_heap pz 0
  have pz_f1 := free_heap pz 1
  have pz_f2 := free_heap pz 2
  have pz_f3 := free_heap pz 3
  have pz_f4 := free_heap pz 4
  have pz_f5 := free_heap pz 5
  have pz_l := lt_heap pz
  have PZ := Lib.hid pz
  clear pz
  have pf_0 := cv0 pf
  have pf_1 := cv1 pf
  have pf_f0 := free_heap pf 0
  have pf_f1 := free_heap pf 1
  have pf_l := lt_heap pf
  have PF := Lib.hid pf
  clear pf
  have pn_0 := cv0 pn
  have pn_1 := cv1 pn
  have pn_2 := cv2 pn
  have pn_3 := cv3 pn
  have pn_4 := cv4 pn
  have pn_5 := cv5 pn
  have pn_l := lt_heap pn
  have PN := Lib.hid pn
  clear pn
  by_cases hf : a = f
  · have q1 : ((a : Int) == (f : Int)) = true := by rw [beq_iff_eq]; omega
    replace HR := Lib.hid (HR.out hf)
    clear hf
    go_wp2_with fail
    exact HR.out _ _ (id ⟨rfl, rfl, rfl, rfl, trivial⟩) (far2 (by omega) (at6 PZ.out)) (at2 (far6 (by omega) PF.out)) (below2 (below6 HB.out (Nat.le_refl _)) (by omega))
  · have q1 : ((a : Int) == (f : Int)) = false := beq_eq_false_iff_ne.2 (by omega)
    replace HN := Lib.hid (HN.out hf)
    clear hf
    go_wp2_with fail
    exact HN.out _ (id ⟨rfl, rfl, rfl, rfl, rfl, rfl, rfl, rfl, rfl, rfl, rfl, rfl, trivial⟩)
noncomputable def c_tr_numd : Code := sub [1, 1, 1, 1, 1, 0, 0, 0, 1, 1, 1, 1, 1, 1, 0, 1, 0, 1, 1, 1, 1, 1] (Tryd.f9.body.getD .skip)
set_option maxRecDepth 1000000 in
theorem open_tr_numd {P : Act → Prop} {v0 v1 v2 v3 v4 v5 v6 v7 v8 v9 : Value} (h : ∀ x1 x9 x10 x11 x14 x15 x16 x17 x18 x19 x20 x21 x22 x23 x24 x25 x26 x27 x28 x29 x30 x31 x32 x33 x34 x35 x36 x37 x38 x39 x40 x41 x42 x43 x44 x45 x46 x47 x48 x49 x50 x51 x52 x53 x54 x55 x56 x57 x58 x59 x60 x61 x62 x63 x64 x65 x66 x67 x68 x69 x70 x71 x72 x73 x74 x75 x76 x77 x78 x79 x80 x81 x82 x83 x84 x85 x86 x87 x88 x89 x90 x91 x92 x93 x94 x95 x96 x97 x98 x99 x100 x101 x102 x103 x104 x105 x106 x107 x108 x109 x110 x111 x112 x113 x114 x115 x116 x117 x118 x119 x120 x121 x122 x123 x124 x125 x126 x127 x128 x129 x130 x131 x132 x133 x134 x135 x136 x137 x138 x139 x140 x141 x142 x143 x144 x145 x146 x147 x148 x149 x150 x151 x152 x153 x154 x155 x156 x157 x158 x159 x160 x161 x162 x163 x164 x165 x166 x167 x168 x169 x170 x171 x172 x173 x174 x175 x176 x177 x178 x179 x180 x181 x182 x183 x184 x185 x186 x187 x188 x189 x190 x191 x192 x193 x194 x195 x196 x197 x198 x199 x200 x201 x202 x203 x204 x205 x206 x207 x208 x209 x210 x211 x212 x213 x214 x215 x216 x217 x218 x219 x220 x221 x222 x223 x224 x225 x226 x227 x228 x229 x230 x231 x232 x233 x234 x235 x236 x237 x238 x239 x240 x241 x242 x243 x244 x245 x246 x247 x248 x249 x250 x251 x252 x253 x254 x255 x256 x257 x258 x259 x260 x261 x262 x263 x264 x265 x266 x267 x268 x269 x270 x271 x272 x273 x274 x275 x276 x277 x278 x279 x280 x281 x282 x283 x284 x285 x286 x287 x288 x289 x290 x291 x292 x293 x294 x295 x296 x297 x298 x299 x300 x301 x302 x303 x304 x305 x306 x307 x308 x309 x310 x311 x312 x313 x314 x315 x316 x317 x318 x319 x320 x321 x322 x323 x324 x325 x326 x327 x328 x329 : Value, P ⟨(v0 :: x1 :: v1 :: v2 :: v3 :: v4 :: v5 :: v6 :: v7 :: x9 :: x10 :: x11 :: v8 :: v9 :: x14 :: x15 :: x16 :: x17 :: x18 :: x19 :: x20 :: x21 :: x22 :: x23 :: x24 :: x25 :: x26 :: x27 :: x28 :: x29 :: x30 :: x31 :: x32 :: x33 :: x34 :: x35 :: x36 :: x37 :: x38 :: x39 :: x40 :: x41 :: x42 :: x43 :: x44 :: x45 :: x46 :: x47 :: x48 :: x49 :: x50 :: x51 :: x52 :: x53 :: x54 :: x55 :: x56 :: x57 :: x58 :: x59 :: x60 :: x61 :: x62 :: x63 :: x64 :: x65 :: x66 :: x67 :: x68 :: x69 :: x70 :: x71 :: x72 :: x73 :: x74 :: x75 :: x76 :: x77 :: x78 :: x79 :: x80 :: x81 :: x82 :: x83 :: x84 :: x85 :: x86 :: x87 :: x88 :: x89 :: x90 :: x91 :: x92 :: x93 :: x94 :: x95 :: x96 :: x97 :: x98 :: x99 :: x100 :: x101 :: x102 :: x103 :: x104 :: x105 :: x106 :: x107 :: x108 :: x109 :: x110 :: x111 :: x112 :: x113 :: x114 :: x115 :: x116 :: x117 :: x118 :: x119 :: x120 :: x121 :: x122 :: x123 :: x124 :: x125 :: x126 :: x127 :: x128 :: x129 :: x130 :: x131 :: x132 :: x133 :: x134 :: x135 :: x136 :: x137 :: x138 :: x139 :: x140 :: x141 :: x142 :: x143 :: x144 :: x145 :: x146 :: x147 :: x148 :: x149 :: x150 :: x151 :: x152 :: x153 :: x154 :: x155 :: x156 :: x157 :: x158 :: x159 :: x160 :: x161 :: x162 :: x163 :: x164 :: x165 :: x166 :: x167 :: x168 :: x169 :: x170 :: x171 :: x172 :: x173 :: x174 :: x175 :: x176 :: x177 :: x178 :: x179 :: x180 :: x181 :: x182 :: x183 :: x184 :: x185 :: x186 :: x187 :: x188 :: x189 :: x190 :: x191 :: x192 :: x193 :: x194 :: x195 :: x196 :: x197 :: x198 :: x199 :: x200 :: x201 :: x202 :: x203 :: x204 :: x205 :: x206 :: x207 :: x208 :: x209 :: x210 :: x211 :: x212 :: x213 :: x214 :: x215 :: x216 :: x217 :: x218 :: x219 :: x220 :: x221 :: x222 :: x223 :: x224 :: x225 :: x226 :: x227 :: x228 :: x229 :: x230 :: x231 :: x232 :: x233 :: x234 :: x235 :: x236 :: x237 :: x238 :: x239 :: x240 :: x241 :: x242 :: x243 :: x244 :: x245 :: x246 :: x247 :: x248 :: x249 :: x250 :: x251 :: x252 :: x253 :: x254 :: x255 :: x256 :: x257 :: x258 :: x259 :: x260 :: x261 :: x262 :: x263 :: x264 :: x265 :: x266 :: x267 :: x268 :: x269 :: x270 :: x271 :: x272 :: x273 :: x274 :: x275 :: x276 :: x277 :: x278 :: x279 :: x280 :: x281 :: x282 :: x283 :: x284 :: x285 :: x286 :: x287 :: x288 :: x289 :: x290 :: x291 :: x292 :: x293 :: x294 :: x295 :: x296 :: x297 :: x298 :: x299 :: x300 :: x301 :: x302 :: x303 :: x304 :: x305 :: x306 :: x307 :: x308 :: x309 :: x310 :: x311 :: x312 :: x313 :: x314 :: x315 :: x316 :: x317 :: x318 :: x319 :: x320 :: x321 :: x322 :: x323 :: x324 :: x325 :: x326 :: x327 :: x328 :: x329 :: []).toArray, []⟩) : ∀ a, Frm 330 [(0, v0), (2, v1), (3, v2), (4, v3), (5, v4), (6, v5), (7, v6), (8, v7), (12, v8), (13, v9)] a → P a := by
  rintro a ⟨h1, h2, e0, e1, e2, e3, e4, e5, e6, e7, e8, e9, _⟩
  revert e0 e1 e2 e3 e4 e5 e6 e7 e8 e9
  refine frame_tr (P := fun a => a.tmps.toList[0]? = some v0 → a.tmps.toList[2]? = some v1 → a.tmps.toList[3]? = some v2 → a.tmps.toList[4]? = some v3 → a.tmps.toList[5]? = some v4 → a.tmps.toList[6]? = some v5 → a.tmps.toList[7]? = some v6 → a.tmps.toList[8]? = some v7 → a.tmps.toList[12]? = some v8 → a.tmps.toList[13]? = some v9 → P a) ?_ a h1 h2
  intro x0 x1 x2 x3 x4 x5 x6 x7 x8 x9 x10 x11 x12 x13 x14 x15 x16 x17 x18 x19 x20 x21 x22 x23 x24 x25 x26 x27 x28 x29 x30 x31 x32 x33 x34 x35 x36 x37 x38 x39 x40 x41 x42 x43 x44 x45 x46 x47 x48 x49 x50 x51 x52 x53 x54 x55 x56 x57 x58 x59 x60 x61 x62 x63 x64 x65 x66 x67 x68 x69 x70 x71 x72 x73 x74 x75 x76 x77 x78 x79 x80 x81 x82 x83 x84 x85 x86 x87 x88 x89 x90 x91 x92 x93 x94 x95 x96 x97 x98 x99 x100 x101 x102 x103 x104 x105 x106 x107 x108 x109 x110 x111 x112 x113 x114 x115 x116 x117 x118 x119 x120 x121 x122 x123 x124 x125 x126 x127 x128 x129 x130 x131 x132 x133 x134 x135 x136 x137 x138 x139 x140 x141 x142 x143 x144 x145 x146 x147 x148 x149 x150 x151 x152 x153 x154 x155 x156 x157 x158 x159 x160 x161 x162 x163 x164 x165 x166 x167 x168 x169 x170 x171 x172 x173 x174 x175 x176 x177 x178 x179 x180 x181 x182 x183 x184 x185 x186 x187 x188 x189 x190 x191 x192 x193 x194 x195 x196 x197 x198 x199 x200 x201 x202 x203 x204 x205 x206 x207 x208 x209 x210 x211 x212 x213 x214 x215 x216 x217 x218 x219 x220 x221 x222 x223 x224 x225 x226 x227 x228 x229 x230 x231 x232 x233 x234 x235 x236 x237 x238 x239 x240 x241 x242 x243 x244 x245 x246 x247 x248 x249 x250 x251 x252 x253 x254 x255 x256 x257 x258 x259 x260 x261 x262 x263 x264 x265 x266 x267 x268 x269 x270 x271 x272 x273 x274 x275 x276 x277 x278 x279 x280 x281 x282 x283 x284 x285 x286 x287 x288 x289 x290 x291 x292 x293 x294 x295 x296 x297 x298 x299 x300 x301 x302 x303 x304 x305 x306 x307 x308 x309 x310 x311 x312 x313 x314 x315 x316 x317 x318 x319 x320 x321 x322 x323 x324 x325 x326 x327 x328 x329 e0 e1 e2 e3 e4 e5 e6 e7 e8 e9
  obtain rfl : x0 = v0 := Option.some.inj e0
  obtain rfl : x2 = v1 := Option.some.inj e1
  obtain rfl : x3 = v2 := Option.some.inj e2
  obtain rfl : x4 = v3 := Option.some.inj e3
  obtain rfl : x5 = v4 := Option.some.inj e4
  obtain rfl : x6 = v5 := Option.some.inj e5
  obtain rfl : x7 = v6 := Option.some.inj e6
  obtain rfl : x8 = v7 := Option.some.inj e7
  obtain rfl : x12 = v8 := Option.some.inj e8
  obtain rfl : x13 = v9 := Option.some.inj e9
  exact h x1 x9 x10 x11 x14 x15 x16 x17 x18 x19 x20 x21 x22 x23 x24 x25 x26 x27 x28 x29 x30 x31 x32 x33 x34 x35 x36 x37 x38 x39 x40 x41 x42 x43 x44 x45 x46 x47 x48 x49 x50 x51 x52 x53 x54 x55 x56 x57 x58 x59 x60 x61 x62 x63 x64 x65 x66 x67 x68 x69 x70 x71 x72 x73 x74 x75 x76 x77 x78 x79 x80 x81 x82 x83 x84 x85 x86 x87 x88 x89 x90 x91 x92 x93 x94 x95 x96 x97 x98 x99 x100 x101 x102 x103 x104 x105 x106 x107 x108 x109 x110 x111 x112 x113 x114 x115 x116 x117 x118 x119 x120 x121 x122 x123 x124 x125 x126 x127 x128 x129 x130 x131 x132 x133 x134 x135 x136 x137 x138 x139 x140 x141 x142 x143 x144 x145 x146 x147 x148 x149 x150 x151 x152 x153 x154 x155 x156 x157 x158 x159 x160 x161 x162 x163 x164 x165 x166 x167 x168 x169 x170 x171 x172 x173 x174 x175 x176 x177 x178 x179 x180 x181 x182 x183 x184 x185 x186 x187 x188 x189 x190 x191 x192 x193 x194 x195 x196 x197 x198 x199 x200 x201 x202 x203 x204 x205 x206 x207 x208 x209 x210 x211 x212 x213 x214 x215 x216 x217 x218 x219 x220 x221 x222 x223 x224 x225 x226 x227 x228 x229 x230 x231 x232 x233 x234 x235 x236 x237 x238 x239 x240 x241 x242 x243 x244 x245 x246 x247 x248 x249 x250 x251 x252 x253 x254 x255 x256 x257 x258 x259 x260 x261 x262 x263 x264 x265 x266 x267 x268 x269 x270 x271 x272 x273 x274 x275 x276 x277 x278 x279 x280 x281 x282 x283 x284 x285 x286 x287 x288 x289 x290 x291 x292 x293 x294 x295 x296 x297 x298 x299 x300 x301 x302 x303 x304 x305 x306 x307 x308 x309 x310 x311 x312 x313 x314 x315 x316 x317 x318 x319 x320 x321 x322 x323 x324 x325 x326 x327 x328 x329
set_option maxRecDepth 1000000 in
set_option maxHeartbeats 16000000 in
theorem tr_numd_wp {Q : Exit → Act → World → Prop} {x : ByteArray} {w : World} {frs : List F7} {Aq : Option Addr} {cq i n : Nat} {wo : World} {D : Nat} {a f q : Nat} (hm : TMem w wo frs Aq cq (D)) (hD : D < wo.heap.size) (hblk : ∀ b, (Value.slice Aq frs.length cq).ownBlock = some b → w.heap.size + 3 ≤ b ∧ b < D) (hd : wo.heap[D]? = some (.cells #[.int .i64 0, .string ⟨#[]⟩, .int .i64 0, .string ⟨#[]⟩, .slice none 0 0, .slice none 0 0] 27 (0, 0))) (hN : ∀ dc a' wx, Frm 330 [(0, .string x), (2, .pointer (some ⟨w.heap.size, 0, none⟩)), (3, .pointer (some ⟨w.heap.size + 1, 0, none⟩)), (4, .slice Aq frs.length cq), (5, .int .i64 (a : Nat)), (6, .int .i64 (n : Nat)), (7, .pointer (some ⟨w.heap.size + 2, 0, none⟩)), (8, .pointer (some ⟨D, 0, none⟩))] a' → LeafAt w wo wx frs Aq cq D (.var q) dc → Q .normal a' wx) : ∀ ac, Frm 330 [(0, .string x), (2, .pointer (some ⟨w.heap.size, 0, none⟩)), (3, .pointer (some ⟨w.heap.size + 1, 0, none⟩)), (4, .slice Aq frs.length cq), (5, .int .i64 (a : Nat)), (6, .int .i64 (n : Nat)), (7, .pointer (some ⟨w.heap.size + 2, 0, none⟩)), (8, .pointer (some ⟨D, 0, none⟩)), (12, .int .i64 (f : Nat)), (13, .int .i64 (q : Nat))] ac → Code.wp Tryd.prog c_tr_numd Q ac wo := by
  refine open_tr_numd (P := fun a => Code.wp Tryd.prog c_tr_numd Q a wo) ?_
  intro x1 x9 x10 x11 x14 x15 x16 x17 x18 x19 x20 x21 x22 x23 x24 x25 x26 x27 x28 x29 x30 x31 x32 x33 x34 x35 x36 x37 x38 x39 x40 x41 x42 x43 x44 x45 x46 x47 x48 x49 x50 x51 x52 x53 x54 x55 x56 x57 x58 x59 x60 x61 x62 x63 x64 x65 x66 x67 x68 x69 x70 x71 x72 x73 x74 x75 x76 x77 x78 x79 x80 x81 x82 x83 x84 x85 x86 x87 x88 x89 x90 x91 x92 x93 x94 x95 x96 x97 x98 x99 x100 x101 x102 x103 x104 x105 x106 x107 x108 x109 x110 x111 x112 x113 x114 x115 x116 x117 x118 x119 x120 x121 x122 x123 x124 x125 x126 x127 x128 x129 x130 x131 x132 x133 x134 x135 x136 x137 x138 x139 x140 x141 x142 x143 x144 x145 x146 x147 x148 x149 x150 x151 x152 x153 x154 x155 x156 x157 x158 x159 x160 x161 x162 x163 x164 x165 x166 x167 x168 x169 x170 x171 x172 x173 x174 x175 x176 x177 x178 x179 x180 x181 x182 x183 x184 x185 x186 x187 x188 x189 x190 x191 x192 x193 x194 x195 x196 x197 x198 x199 x200 x201 x202 x203 x204 x205 x206 x207 x208 x209 x210 x211 x212 x213 x214 x215 x216 x217 x218 x219 x220 x221 x222 x223 x224 x225 x226 x227 x228 x229 x230 x231 x232 x233 x234 x235 x236 x237 x238 x239 x240 x241 x242 x243 x244 x245 x246 x247 x248 x249 x250 x251 x252 x253 x254 x255 x256 x257 x258 x259 x260 x261 x262 x263 x264 x265 x266 x267 x268 x269 x270 x271 x272 x273 x274 x275 x276 x277 x278 x279 x280 x281 x282 x283 x284 x285 x286 x287 x288 x289 x290 x291 x292 x293 x294 x295 x296 x297 x298 x299 x300 x301 x302 x303 x304 x305 x306 x307 x308 x309 x310 x311 x312 x313 x314 x315 x316 x317 x318 x319 x320 x321 x322 x323 x324 x325 x326 x327 x328 x329
  conv => arg 2; whnf
  have HN := Lib.hid hN
  clear hN
  have hbz := FsOk.base hm.fs
  obtain ⟨hown, hfrs, ⟨pz, pf, pn⟩, hB⟩ := hm
  have HOWN := Lib.hid hown
  have HFRS := Lib.hid hfrs
  have HB := Lib.hid hB
  have HBLK := Lib.hid hblk
  clear hown hfrs hB hblk
  have pz_0 := cv0 pz
  have pz_1 := cv1 pz
  have pz_2 := cv2 pz
  have pz_3 := cv3 pz
  have pz_4 := cv4 pz
  have pz_5 := cv5 pz
  have pz_f0 := free_heap pz 0
  have pz_f1 := free_heap pz 1
  have pz_f2 := free_heap pz 2
  have pz_f3 := free_heap pz 3
  have pz_f4 := free_heap pz 4
  have pz_f5 := free_heap pz 5
  have pz_l := lt_heap pz
  have PZ := Lib.hid pz
  clear pz
  have pf_0 := cv0 pf
  have pf_1 := cv1 pf
  have pf_f0 := free_heap pf 0
  have pf_f1 := free_heap pf 1
  have pf_l := lt_heap pf
  have PF := Lib.hid pf
  clear pf
  have pn_0 := cv0 pn
  have pn_1 := cv1 pn
  have pn_2 := cv2 pn
  have pn_3 := cv3 pn
  have pn_4 := cv4 pn
  have pn_5 := cv5 pn
  have pn_l := lt_heap pn
  have PN := Lib.hid pn
  clear pn
  have pd := hd
  have PD := Lib.hid pd
  clear pd
  clear hd
  have pd0 := PD.out
  have pd0_0 := cv0 pd0
  have pd0_1 := cv1 pd0
  have pd0_2 := cv2 pd0
  have pd0_3 := cv3 pd0
  have pd0_4 := cv4 pd0
  have pd0_5 := cv5 pd0
  have pd0_f0 := free_heap pd0 0
  have pd0_f1 := free_heap pd0 1
  have pd0_f2 := free_heap pd0 2
  have pd0_f3 := free_heap pd0 3
  have pd0_f4 := free_heap pd0 4
  have pd0_f5 := free_heap pd0 5
  have pd0_l := lt_heap pd0
  have PD0 := Lib.hid pd0
  clear pd0
  go_wp2_with fail
  have hnD : (Value.slice Aq frs.length cq).ownBlock ≠ some D := fun e => by have := (HBLK.out D e).2; omega
  exact HN.out _ _ _ (id ⟨rfl, rfl, rfl, rfl, rfl, rfl, rfl, rfl, rfl, rfl, trivial⟩) ⟨⟨oth6 (i := 0) hnD HOWN.out, HFRS.out.keep (fun b h1 h2 h3 => far6 (by omega) rfl) (fun _ _ e => e) (Nat.le_refl _), ⟨far6 (by omega) PZ.out, far6 (by omega) PF.out, far6 (by omega) PN.out⟩, below6 HB.out (by omega)⟩, at6 PD.out, Tm.shut (a := ⟨2, bNil, (q : Nat), noTy⟩) (l := []) (show bNil.size ≤ maxLen by decide +kernel) noTy_inU Rep.Sl.nil, le6 (Nat.le_refl _)⟩
noncomputable def c_tr_num : Code := sub [1, 1, 1, 1, 1, 0, 0, 0, 1, 1, 1, 1, 1, 1, 0, 1, 0] (Tryd.f9.body.getD .skip)
theorem tr_num_wp {Q : Exit → Act → World → Prop} {x : ByteArray} {w : World} {frs : List F7} {Aq : Option Addr} {cq i n : Nat} {wo : World} {D : Nat} (hx4 : x.size ≤ 4000) (hi : i < x.size) (hm : TMem w wo frs Aq cq (D)) (hD : D < wo.heap.size) (hblk : ∀ b, (Value.slice Aq frs.length cq).ownBlock = some b → w.heap.size + 3 ≤ b ∧ b < D) (hd : wo.heap[D]? = some (.cells #[.int .i64 0, .string ⟨#[]⟩, .int .i64 0, .string ⟨#[]⟩, .slice none 0 0, .slice none 0 0] 27 (0, 0))) (hR : (numF x (i + 1)).2 = i + 1 → ∀ a' w', Frm 330 [(2, .pointer (some ⟨w.heap.size, 0, none⟩)), (3, .pointer (some ⟨w.heap.size + 1, 0, none⟩))] a' → w'.heap[w.heap.size]? = some (.cells #[.int .i64 0, .string ⟨#[]⟩, .int .i64 0, .string ⟨#[]⟩, .slice none 0 0, .slice none 0 0] 27 (0, 0)) → w'.heap[w.heap.size + 1]? = some (.cells #[.int .i64 11, .int .i64 (i + 1 : Nat)] 29 (0, 0)) → Below w.heap.size w w' → Q .ret a' w') (hN : ¬ (numF x (i + 1)).2 = i + 1 → ∀ dc a' wx, Frm 330 [(0, .string x), (2, .pointer (some ⟨w.heap.size, 0, none⟩)), (3, .pointer (some ⟨w.heap.size + 1, 0, none⟩)), (4, .slice Aq frs.length cq), (5, .int .i64 ((numF x (i + 1)).2 : Nat)), (6, .int .i64 (n : Nat)), (7, .pointer (some ⟨w.heap.size + 2, 0, none⟩)), (8, .pointer (some ⟨D, 0, none⟩))] a' → LeafAt w wo wx frs Aq cq D (.var (numF x (i + 1)).1) dc → Q .normal a' wx) : ∀ ac, Frm 330 [(0, .string x), (2, .pointer (some ⟨w.heap.size, 0, none⟩)), (3, .pointer (some ⟨w.heap.size + 1, 0, none⟩)), (4, .slice Aq frs.length cq), (5, .int .i64 (i : Nat)), (6, .int .i64 (n : Nat)), (7, .pointer (some ⟨w.heap.size + 2, 0, none⟩)), (8, .pointer (some ⟨D, 0, none⟩))] ac → Code.wp Tryd.prog c_tr_num Q ac wo := by
  intro a0 hf0
  conv => arg 2; whnf
  refine wp_seq ?_
  refine tr_num0_wp hx4 (by omega) (fun a1 hf1 => ?_) a0 hf0
  refine wp_seq ?_
  refine tr_num1_wp (fun a2 hf2 => ?_) a1 hf1
  refine wp_seq ?_
  refine tr_num2_wp (fun a3 hf3 => ?_) a2 hf2
  refine wp_seq ?_
  refine wp_block ?_
  refine tr_numl_wp (i := 0) (f := i + 1) hx4 (by omega) (fun a4 hf4 => ?_) a3 hf3
  refine wp_seq ?_
  refine tr_nume_wp (Q := Exit.then _ _) (i := 0) hm hblk (fun e a5 w5 h1 h2 h3 h4 => hR e a5 w5 h1 h2 (by rw [e] at h3; exact h3) h4) (fun e a5 hf5 => ?_) a4 hf4
  exact tr_numd_wp (i := 0) hm hD hblk hd (fun dc a6 w6 h1 h2 => hN e dc a6 w6 h1 h2) a5 hf5
noncomputable def c_tr_con0 : Code := sub [1, 1, 1, 1, 1, 0, 0, 0, 1, 1, 1, 1, 1, 1, 0, 1, 1, 0] (Tryd.f9.body.getD .skip)
set_option maxRecDepth 1000000 in
theorem open_tr_con0 {P : Act → Prop} {v0 v1 v2 v3 v4 v5 v6 v7 : Value} (h : ∀ x1 x9 x10 x11 x12 x13 x14 x15 x16 x17 x18 x19 x20 x21 x22 x23 x24 x25 x26 x27 x28 x29 x30 x31 x32 x33 x34 x35 x36 x37 x38 x39 x40 x41 x42 x43 x44 x45 x46 x47 x48 x49 x50 x51 x52 x53 x54 x55 x56 x57 x58 x59 x60 x61 x62 x63 x64 x65 x66 x67 x68 x69 x70 x71 x72 x73 x74 x75 x76 x77 x78 x79 x80 x81 x82 x83 x84 x85 x86 x87 x88 x89 x90 x91 x92 x93 x94 x95 x96 x97 x98 x99 x100 x101 x102 x103 x104 x105 x106 x107 x108 x109 x110 x111 x112 x113 x114 x115 x116 x117 x118 x119 x120 x121 x122 x123 x124 x125 x126 x127 x128 x129 x130 x131 x132 x133 x134 x135 x136 x137 x138 x139 x140 x141 x142 x143 x144 x145 x146 x147 x148 x149 x150 x151 x152 x153 x154 x155 x156 x157 x158 x159 x160 x161 x162 x163 x164 x165 x166 x167 x168 x169 x170 x171 x172 x173 x174 x175 x176 x177 x178 x179 x180 x181 x182 x183 x184 x185 x186 x187 x188 x189 x190 x191 x192 x193 x194 x195 x196 x197 x198 x199 x200 x201 x202 x203 x204 x205 x206 x207 x208 x209 x210 x211 x212 x213 x214 x215 x216 x217 x218 x219 x220 x221 x222 x223 x224 x225 x226 x227 x228 x229 x230 x231 x232 x233 x234 x235 x236 x237 x238 x239 x240 x241 x242 x243 x244 x245 x246 x247 x248 x249 x250 x251 x252 x253 x254 x255 x256 x257 x258 x259 x260 x261 x262 x263 x264 x265 x266 x267 x268 x269 x270 x271 x272 x273 x274 x275 x276 x277 x278 x279 x280 x281 x282 x283 x284 x285 x286 x287 x288 x289 x290 x291 x292 x293 x294 x295 x296 x297 x298 x299 x300 x301 x302 x303 x304 x305 x306 x307 x308 x309 x310 x311 x312 x313 x314 x315 x316 x317 x318 x319 x320 x321 x322 x323 x324 x325 x326 x327 x328 x329 : Value, P ⟨(v0 :: x1 :: v1 :: v2 :: v3 :: v4 :: v5 :: v6 :: v7 :: x9 :: x10 :: x11 :: x12 :: x13 :: x14 :: x15 :: x16 :: x17 :: x18 :: x19 :: x20 :: x21 :: x22 :: x23 :: x24 :: x25 :: x26 :: x27 :: x28 :: x29 :: x30 :: x31 :: x32 :: x33 :: x34 :: x35 :: x36 :: x37 :: x38 :: x39 :: x40 :: x41 :: x42 :: x43 :: x44 :: x45 :: x46 :: x47 :: x48 :: x49 :: x50 :: x51 :: x52 :: x53 :: x54 :: x55 :: x56 :: x57 :: x58 :: x59 :: x60 :: x61 :: x62 :: x63 :: x64 :: x65 :: x66 :: x67 :: x68 :: x69 :: x70 :: x71 :: x72 :: x73 :: x74 :: x75 :: x76 :: x77 :: x78 :: x79 :: x80 :: x81 :: x82 :: x83 :: x84 :: x85 :: x86 :: x87 :: x88 :: x89 :: x90 :: x91 :: x92 :: x93 :: x94 :: x95 :: x96 :: x97 :: x98 :: x99 :: x100 :: x101 :: x102 :: x103 :: x104 :: x105 :: x106 :: x107 :: x108 :: x109 :: x110 :: x111 :: x112 :: x113 :: x114 :: x115 :: x116 :: x117 :: x118 :: x119 :: x120 :: x121 :: x122 :: x123 :: x124 :: x125 :: x126 :: x127 :: x128 :: x129 :: x130 :: x131 :: x132 :: x133 :: x134 :: x135 :: x136 :: x137 :: x138 :: x139 :: x140 :: x141 :: x142 :: x143 :: x144 :: x145 :: x146 :: x147 :: x148 :: x149 :: x150 :: x151 :: x152 :: x153 :: x154 :: x155 :: x156 :: x157 :: x158 :: x159 :: x160 :: x161 :: x162 :: x163 :: x164 :: x165 :: x166 :: x167 :: x168 :: x169 :: x170 :: x171 :: x172 :: x173 :: x174 :: x175 :: x176 :: x177 :: x178 :: x179 :: x180 :: x181 :: x182 :: x183 :: x184 :: x185 :: x186 :: x187 :: x188 :: x189 :: x190 :: x191 :: x192 :: x193 :: x194 :: x195 :: x196 :: x197 :: x198 :: x199 :: x200 :: x201 :: x202 :: x203 :: x204 :: x205 :: x206 :: x207 :: x208 :: x209 :: x210 :: x211 :: x212 :: x213 :: x214 :: x215 :: x216 :: x217 :: x218 :: x219 :: x220 :: x221 :: x222 :: x223 :: x224 :: x225 :: x226 :: x227 :: x228 :: x229 :: x230 :: x231 :: x232 :: x233 :: x234 :: x235 :: x236 :: x237 :: x238 :: x239 :: x240 :: x241 :: x242 :: x243 :: x244 :: x245 :: x246 :: x247 :: x248 :: x249 :: x250 :: x251 :: x252 :: x253 :: x254 :: x255 :: x256 :: x257 :: x258 :: x259 :: x260 :: x261 :: x262 :: x263 :: x264 :: x265 :: x266 :: x267 :: x268 :: x269 :: x270 :: x271 :: x272 :: x273 :: x274 :: x275 :: x276 :: x277 :: x278 :: x279 :: x280 :: x281 :: x282 :: x283 :: x284 :: x285 :: x286 :: x287 :: x288 :: x289 :: x290 :: x291 :: x292 :: x293 :: x294 :: x295 :: x296 :: x297 :: x298 :: x299 :: x300 :: x301 :: x302 :: x303 :: x304 :: x305 :: x306 :: x307 :: x308 :: x309 :: x310 :: x311 :: x312 :: x313 :: x314 :: x315 :: x316 :: x317 :: x318 :: x319 :: x320 :: x321 :: x322 :: x323 :: x324 :: x325 :: x326 :: x327 :: x328 :: x329 :: []).toArray, []⟩) : ∀ a, Frm 330 [(0, v0), (2, v1), (3, v2), (4, v3), (5, v4), (6, v5), (7, v6), (8, v7)] a → P a := by
  rintro a ⟨h1, h2, e0, e1, e2, e3, e4, e5, e6, e7, _⟩
  revert e0 e1 e2 e3 e4 e5 e6 e7
  refine frame_tr (P := fun a => a.tmps.toList[0]? = some v0 → a.tmps.toList[2]? = some v1 → a.tmps.toList[3]? = some v2 → a.tmps.toList[4]? = some v3 → a.tmps.toList[5]? = some v4 → a.tmps.toList[6]? = some v5 → a.tmps.toList[7]? = some v6 → a.tmps.toList[8]? = some v7 → P a) ?_ a h1 h2
  intro x0 x1 x2 x3 x4 x5 x6 x7 x8 x9 x10 x11 x12 x13 x14 x15 x16 x17 x18 x19 x20 x21 x22 x23 x24 x25 x26 x27 x28 x29 x30 x31 x32 x33 x34 x35 x36 x37 x38 x39 x40 x41 x42 x43 x44 x45 x46 x47 x48 x49 x50 x51 x52 x53 x54 x55 x56 x57 x58 x59 x60 x61 x62 x63 x64 x65 x66 x67 x68 x69 x70 x71 x72 x73 x74 x75 x76 x77 x78 x79 x80 x81 x82 x83 x84 x85 x86 x87 x88 x89 x90 x91 x92 x93 x94 x95 x96 x97 x98 x99 x100 x101 x102 x103 x104 x105 x106 x107 x108 x109 x110 x111 x112 x113 x114 x115 x116 x117 x118 x119 x120 x121 x122 x123 x124 x125 x126 x127 x128 x129 x130 x131 x132 x133 x134 x135 x136 x137 x138 x139 x140 x141 x142 x143 x144 x145 x146 x147 x148 x149 x150 x151 x152 x153 x154 x155 x156 x157 x158 x159 x160 x161 x162 x163 x164 x165 x166 x167 x168 x169 x170 x171 x172 x173 x174 x175 x176 x177 x178 x179 x180 x181 x182 x183 x184 x185 x186 x187 x188 x189 x190 x191 x192 x193 x194 x195 x196 x197 x198 x199 x200 x201 x202 x203 x204 x205 x206 x207 x208 x209 x210 x211 x212 x213 x214 x215 x216 x217 x218 x219 x220 x221 x222 x223 x224 x225 x226 x227 x228 x229 x230 x231 x232 x233 x234 x235 x236 x237 x238 x239 x240 x241 x242 x243 x244 x245 x246 x247 x248 x249 x250 x251 x252 x253 x254 x255 x256 x257 x258 x259 x260 x261 x262 x263 x264 x265 x266 x267 x268 x269 x270 x271 x272 x273 x274 x275 x276 x277 x278 x279 x280 x281 x282 x283 x284 x285 x286 x287 x288 x289 x290 x291 x292 x293 x294 x295 x296 x297 x298 x299 x300 x301 x302 x303 x304 x305 x306 x307 x308 x309 x310 x311 x312 x313 x314 x315 x316 x317 x318 x319 x320 x321 x322 x323 x324 x325 x326 x327 x328 x329 e0 e1 e2 e3 e4 e5 e6 e7
  obtain rfl : x0 = v0 := Option.some.inj e0
  obtain rfl : x2 = v1 := Option.some.inj e1
  obtain rfl : x3 = v2 := Option.some.inj e2
  obtain rfl : x4 = v3 := Option.some.inj e3
  obtain rfl : x5 = v4 := Option.some.inj e4
  obtain rfl : x6 = v5 := Option.some.inj e5
  obtain rfl : x7 = v6 := Option.some.inj e6
  obtain rfl : x8 = v7 := Option.some.inj e7
  exact h x1 x9 x10 x11 x12 x13 x14 x15 x16 x17 x18 x19 x20 x21 x22 x23 x24 x25 x26 x27 x28 x29 x30 x31 x32 x33 x34 x35 x36 x37 x38 x39 x40 x41 x42 x43 x44 x45 x46 x47 x48 x49 x50 x51 x52 x53 x54 x55 x56 x57 x58 x59 x60 x61 x62 x63 x64 x65 x66 x67 x68 x69 x70 x71 x72 x73 x74 x75 x76 x77 x78 x79 x80 x81 x82 x83 x84 x85 x86 x87 x88 x89 x90 x91 x92 x93 x94 x95 x96 x97 x98 x99 x100 x101 x102 x103 x104 x105 x106 x107 x108 x109 x110 x111 x112 x113 x114 x115 x116 x117 x118 x119 x120 x121 x122 x123 x124 x125 x126 x127 x128 x129 x130 x131 x132 x133 x134 x135 x136 x137 x138 x139 x140 x141 x142 x143 x144 x145 x146 x147 x148 x149 x150 x151 x152 x153 x154 x155 x156 x157 x158 x159 x160 x161 x162 x163 x164 x165 x166 x167 x168 x169 x170 x171 x172 x173 x174 x175 x176 x177 x178 x179 x180 x181 x182 x183 x184 x185 x186 x187 x188 x189 x190 x191 x192 x193 x194 x195 x196 x197 x198 x199 x200 x201 x202 x203 x204 x205 x206 x207 x208 x209 x210 x211 x212 x213 x214 x215 x216 x217 x218 x219 x220 x221 x222 x223 x224 x225 x226 x227 x228 x229 x230 x231 x232 x233 x234 x235 x236 x237 x238 x239 x240 x241 x242 x243 x244 x245 x246 x247 x248 x249 x250 x251 x252 x253 x254 x255 x256 x257 x258 x259 x260 x261 x262 x263 x264 x265 x266 x267 x268 x269 x270 x271 x272 x273 x274 x275 x276 x277 x278 x279 x280 x281 x282 x283 x284 x285 x286 x287 x288 x289 x290 x291 x292 x293 x294 x295 x296 x297 x298 x299 x300 x301 x302 x303 x304 x305 x306 x307 x308 x309 x310 x311 x312 x313 x314 x315 x316 x317 x318 x319 x320 x321 x322 x323 x324 x325 x326 x327 x328 x329
set_option maxRecDepth 1000000 in
set_option maxHeartbeats 16000000 in
theorem tr_con0_wp {Q : Exit → Act → World → Prop} {x : ByteArray} {w : World} {frs : List F7} {Aq : Option Addr} {cq i n : Nat} {wo : World} {D : Nat} (hN : ∀ a', Frm 330 [(0, .string x), (2, .pointer (some ⟨w.heap.size, 0, none⟩)), (3, .pointer (some ⟨w.heap.size + 1, 0, none⟩)), (4, .slice Aq frs.length cq), (5, .int .i64 (i : Nat)), (6, .int .i64 (n : Nat)), (7, .pointer (some ⟨w.heap.size + 2, 0, none⟩)), (8, .pointer (some ⟨D, 0, none⟩)), (14, .int .i64 (i : Nat))] a' → Q .normal a' wo) : ∀ ac, Frm 330 [(0, .string x), (2, .pointer (some ⟨w.heap.size, 0, none⟩)), (3, .pointer (some ⟨w.heap.size + 1, 0, none⟩)), (4, .slice Aq frs.length cq), (5, .int .i64 (i : Nat)), (6, .int .i64 (n : Nat)), (7, .pointer (some ⟨w.heap.size + 2, 0, none⟩)), (8, .pointer (some ⟨D, 0, none⟩))] ac → Code.wp Tryd.prog c_tr_con0 Q ac wo := by
  refine open_tr_con0 (P := fun a => Code.wp Tryd.prog c_tr_con0 Q a wo) ?_
  intro x1 x9 x10 x11 x12 x13 x14 x15 x16 x17 x18 x19 x20 x21 x22 x23 x24 x25 x26 x27 x28 x29 x30 x31 x32 x33 x34 x35 x36 x37 x38 x39 x40 x41 x42 x43 x44 x45 x46 x47 x48 x49 x50 x51 x52 x53 x54 x55 x56 x57 x58 x59 x60 x61 x62 x63 x64 x65 x66 x67 x68 x69 x70 x71 x72 x73 x74 x75 x76 x77 x78 x79 x80 x81 x82 x83 x84 x85 x86 x87 x88 x89 x90 x91 x92 x93 x94 x95 x96 x97 x98 x99 x100 x101 x102 x103 x104 x105 x106 x107 x108 x109 x110 x111 x112 x113 x114 x115 x116 x117 x118 x119 x120 x121 x122 x123 x124 x125 x126 x127 x128 x129 x130 x131 x132 x133 x134 x135 x136 x137 x138 x139 x140 x141 x142 x143 x144 x145 x146 x147 x148 x149 x150 x151 x152 x153 x154 x155 x156 x157 x158 x159 x160 x161 x162 x163 x164 x165 x166 x167 x168 x169 x170 x171 x172 x173 x174 x175 x176 x177 x178 x179 x180 x181 x182 x183 x184 x185 x186 x187 x188 x189 x190 x191 x192 x193 x194 x195 x196 x197 x198 x199 x200 x201 x202 x203 x204 x205 x206 x207 x208 x209 x210 x211 x212 x213 x214 x215 x216 x217 x218 x219 x220 x221 x222 x223 x224 x225 x226 x227 x228 x229 x230 x231 x232 x233 x234 x235 x236 x237 x238 x239 x240 x241 x242 x243 x244 x245 x246 x247 x248 x249 x250 x251 x252 x253 x254 x255 x256 x257 x258 x259 x260 x261 x262 x263 x264 x265 x266 x267 x268 x269 x270 x271 x272 x273 x274 x275 x276 x277 x278 x279 x280 x281 x282 x283 x284 x285 x286 x287 x288 x289 x290 x291 x292 x293 x294 x295 x296 x297 x298 x299 x300 x301 x302 x303 x304 x305 x306 x307 x308 x309 x310 x311 x312 x313 x314 x315 x316 x317 x318 x319 x320 x321 x322 x323 x324 x325 x326 x327 x328 x329
  conv => arg 2; whnf
  have HN := Lib.hid hN
  clear hN
  go_wp2_with fail
  exact HN.out _ (id ⟨rfl, rfl, rfl, rfl, rfl, rfl, rfl, rfl, rfl, rfl, rfl, trivial⟩)
noncomputable def c_tr_conr : Code := sub [1, 1, 1, 1, 1, 0, 0, 0, 1, 1, 1, 1, 1, 1, 0, 1, 1, 1, 0, 0, 0] (Tryd.f9.body.getD .skip)
set_option maxRecDepth 1000000 in
theorem open_tr_conr {P : Act → Prop} {v0 v1 v2 v3 v4 v5 v6 v7 v8 : Value} (h : ∀ x1 x9 x10 x11 x12 x13 x15 x16 x17 x18 x19 x20 x21 x22 x23 x24 x25 x26 x27 x28 x29 x30 x31 x32 x33 x34 x35 x36 x37 x38 x39 x40 x41 x42 x43 x44 x45 x46 x47 x48 x49 x50 x51 x52 x53 x54 x55 x56 x57 x58 x59 x60 x61 x62 x63 x64 x65 x66 x67 x68 x69 x70 x71 x72 x73 x74 x75 x76 x77 x78 x79 x80 x81 x82 x83 x84 x85 x86 x87 x88 x89 x90 x91 x92 x93 x94 x95 x96 x97 x98 x99 x100 x101 x102 x103 x104 x105 x106 x107 x108 x109 x110 x111 x112 x113 x114 x115 x116 x117 x118 x119 x120 x121 x122 x123 x124 x125 x126 x127 x128 x129 x130 x131 x132 x133 x134 x135 x136 x137 x138 x139 x140 x141 x142 x143 x144 x145 x146 x147 x148 x149 x150 x151 x152 x153 x154 x155 x156 x157 x158 x159 x160 x161 x162 x163 x164 x165 x166 x167 x168 x169 x170 x171 x172 x173 x174 x175 x176 x177 x178 x179 x180 x181 x182 x183 x184 x185 x186 x187 x188 x189 x190 x191 x192 x193 x194 x195 x196 x197 x198 x199 x200 x201 x202 x203 x204 x205 x206 x207 x208 x209 x210 x211 x212 x213 x214 x215 x216 x217 x218 x219 x220 x221 x222 x223 x224 x225 x226 x227 x228 x229 x230 x231 x232 x233 x234 x235 x236 x237 x238 x239 x240 x241 x242 x243 x244 x245 x246 x247 x248 x249 x250 x251 x252 x253 x254 x255 x256 x257 x258 x259 x260 x261 x262 x263 x264 x265 x266 x267 x268 x269 x270 x271 x272 x273 x274 x275 x276 x277 x278 x279 x280 x281 x282 x283 x284 x285 x286 x287 x288 x289 x290 x291 x292 x293 x294 x295 x296 x297 x298 x299 x300 x301 x302 x303 x304 x305 x306 x307 x308 x309 x310 x311 x312 x313 x314 x315 x316 x317 x318 x319 x320 x321 x322 x323 x324 x325 x326 x327 x328 x329 : Value, P ⟨(v0 :: x1 :: v1 :: v2 :: v3 :: v4 :: v5 :: v6 :: v7 :: x9 :: x10 :: x11 :: x12 :: x13 :: v8 :: x15 :: x16 :: x17 :: x18 :: x19 :: x20 :: x21 :: x22 :: x23 :: x24 :: x25 :: x26 :: x27 :: x28 :: x29 :: x30 :: x31 :: x32 :: x33 :: x34 :: x35 :: x36 :: x37 :: x38 :: x39 :: x40 :: x41 :: x42 :: x43 :: x44 :: x45 :: x46 :: x47 :: x48 :: x49 :: x50 :: x51 :: x52 :: x53 :: x54 :: x55 :: x56 :: x57 :: x58 :: x59 :: x60 :: x61 :: x62 :: x63 :: x64 :: x65 :: x66 :: x67 :: x68 :: x69 :: x70 :: x71 :: x72 :: x73 :: x74 :: x75 :: x76 :: x77 :: x78 :: x79 :: x80 :: x81 :: x82 :: x83 :: x84 :: x85 :: x86 :: x87 :: x88 :: x89 :: x90 :: x91 :: x92 :: x93 :: x94 :: x95 :: x96 :: x97 :: x98 :: x99 :: x100 :: x101 :: x102 :: x103 :: x104 :: x105 :: x106 :: x107 :: x108 :: x109 :: x110 :: x111 :: x112 :: x113 :: x114 :: x115 :: x116 :: x117 :: x118 :: x119 :: x120 :: x121 :: x122 :: x123 :: x124 :: x125 :: x126 :: x127 :: x128 :: x129 :: x130 :: x131 :: x132 :: x133 :: x134 :: x135 :: x136 :: x137 :: x138 :: x139 :: x140 :: x141 :: x142 :: x143 :: x144 :: x145 :: x146 :: x147 :: x148 :: x149 :: x150 :: x151 :: x152 :: x153 :: x154 :: x155 :: x156 :: x157 :: x158 :: x159 :: x160 :: x161 :: x162 :: x163 :: x164 :: x165 :: x166 :: x167 :: x168 :: x169 :: x170 :: x171 :: x172 :: x173 :: x174 :: x175 :: x176 :: x177 :: x178 :: x179 :: x180 :: x181 :: x182 :: x183 :: x184 :: x185 :: x186 :: x187 :: x188 :: x189 :: x190 :: x191 :: x192 :: x193 :: x194 :: x195 :: x196 :: x197 :: x198 :: x199 :: x200 :: x201 :: x202 :: x203 :: x204 :: x205 :: x206 :: x207 :: x208 :: x209 :: x210 :: x211 :: x212 :: x213 :: x214 :: x215 :: x216 :: x217 :: x218 :: x219 :: x220 :: x221 :: x222 :: x223 :: x224 :: x225 :: x226 :: x227 :: x228 :: x229 :: x230 :: x231 :: x232 :: x233 :: x234 :: x235 :: x236 :: x237 :: x238 :: x239 :: x240 :: x241 :: x242 :: x243 :: x244 :: x245 :: x246 :: x247 :: x248 :: x249 :: x250 :: x251 :: x252 :: x253 :: x254 :: x255 :: x256 :: x257 :: x258 :: x259 :: x260 :: x261 :: x262 :: x263 :: x264 :: x265 :: x266 :: x267 :: x268 :: x269 :: x270 :: x271 :: x272 :: x273 :: x274 :: x275 :: x276 :: x277 :: x278 :: x279 :: x280 :: x281 :: x282 :: x283 :: x284 :: x285 :: x286 :: x287 :: x288 :: x289 :: x290 :: x291 :: x292 :: x293 :: x294 :: x295 :: x296 :: x297 :: x298 :: x299 :: x300 :: x301 :: x302 :: x303 :: x304 :: x305 :: x306 :: x307 :: x308 :: x309 :: x310 :: x311 :: x312 :: x313 :: x314 :: x315 :: x316 :: x317 :: x318 :: x319 :: x320 :: x321 :: x322 :: x323 :: x324 :: x325 :: x326 :: x327 :: x328 :: x329 :: []).toArray, []⟩) : ∀ a, Frm 330 [(0, v0), (2, v1), (3, v2), (4, v3), (5, v4), (6, v5), (7, v6), (8, v7), (14, v8)] a → P a := by
  rintro a ⟨h1, h2, e0, e1, e2, e3, e4, e5, e6, e7, e8, _⟩
  revert e0 e1 e2 e3 e4 e5 e6 e7 e8
  refine frame_tr (P := fun a => a.tmps.toList[0]? = some v0 → a.tmps.toList[2]? = some v1 → a.tmps.toList[3]? = some v2 → a.tmps.toList[4]? = some v3 → a.tmps.toList[5]? = some v4 → a.tmps.toList[6]? = some v5 → a.tmps.toList[7]? = some v6 → a.tmps.toList[8]? = some v7 → a.tmps.toList[14]? = some v8 → P a) ?_ a h1 h2
  intro x0 x1 x2 x3 x4 x5 x6 x7 x8 x9 x10 x11 x12 x13 x14 x15 x16 x17 x18 x19 x20 x21 x22 x23 x24 x25 x26 x27 x28 x29 x30 x31 x32 x33 x34 x35 x36 x37 x38 x39 x40 x41 x42 x43 x44 x45 x46 x47 x48 x49 x50 x51 x52 x53 x54 x55 x56 x57 x58 x59 x60 x61 x62 x63 x64 x65 x66 x67 x68 x69 x70 x71 x72 x73 x74 x75 x76 x77 x78 x79 x80 x81 x82 x83 x84 x85 x86 x87 x88 x89 x90 x91 x92 x93 x94 x95 x96 x97 x98 x99 x100 x101 x102 x103 x104 x105 x106 x107 x108 x109 x110 x111 x112 x113 x114 x115 x116 x117 x118 x119 x120 x121 x122 x123 x124 x125 x126 x127 x128 x129 x130 x131 x132 x133 x134 x135 x136 x137 x138 x139 x140 x141 x142 x143 x144 x145 x146 x147 x148 x149 x150 x151 x152 x153 x154 x155 x156 x157 x158 x159 x160 x161 x162 x163 x164 x165 x166 x167 x168 x169 x170 x171 x172 x173 x174 x175 x176 x177 x178 x179 x180 x181 x182 x183 x184 x185 x186 x187 x188 x189 x190 x191 x192 x193 x194 x195 x196 x197 x198 x199 x200 x201 x202 x203 x204 x205 x206 x207 x208 x209 x210 x211 x212 x213 x214 x215 x216 x217 x218 x219 x220 x221 x222 x223 x224 x225 x226 x227 x228 x229 x230 x231 x232 x233 x234 x235 x236 x237 x238 x239 x240 x241 x242 x243 x244 x245 x246 x247 x248 x249 x250 x251 x252 x253 x254 x255 x256 x257 x258 x259 x260 x261 x262 x263 x264 x265 x266 x267 x268 x269 x270 x271 x272 x273 x274 x275 x276 x277 x278 x279 x280 x281 x282 x283 x284 x285 x286 x287 x288 x289 x290 x291 x292 x293 x294 x295 x296 x297 x298 x299 x300 x301 x302 x303 x304 x305 x306 x307 x308 x309 x310 x311 x312 x313 x314 x315 x316 x317 x318 x319 x320 x321 x322 x323 x324 x325 x326 x327 x328 x329 e0 e1 e2 e3 e4 e5 e6 e7 e8
  obtain rfl : x0 = v0 := Option.some.inj e0
  obtain rfl : x2 = v1 := Option.some.inj e1
  obtain rfl : x3 = v2 := Option.some.inj e2
  obtain rfl : x4 = v3 := Option.some.inj e3
  obtain rfl : x5 = v4 := Option.some.inj e4
  obtain rfl : x6 = v5 := Option.some.inj e5
  obtain rfl : x7 = v6 := Option.some.inj e6
  obtain rfl : x8 = v7 := Option.some.inj e7
  obtain rfl : x14 = v8 := Option.some.inj e8
  exact h x1 x9 x10 x11 x12 x13 x15 x16 x17 x18 x19 x20 x21 x22 x23 x24 x25 x26 x27 x28 x29 x30 x31 x32 x33 x34 x35 x36 x37 x38 x39 x40 x41 x42 x43 x44 x45 x46 x47 x48 x49 x50 x51 x52 x53 x54 x55 x56 x57 x58 x59 x60 x61 x62 x63 x64 x65 x66 x67 x68 x69 x70 x71 x72 x73 x74 x75 x76 x77 x78 x79 x80 x81 x82 x83 x84 x85 x86 x87 x88 x89 x90 x91 x92 x93 x94 x95 x96 x97 x98 x99 x100 x101 x102 x103 x104 x105 x106 x107 x108 x109 x110 x111 x112 x113 x114 x115 x116 x117 x118 x119 x120 x121 x122 x123 x124 x125 x126 x127 x128 x129 x130 x131 x132 x133 x134 x135 x136 x137 x138 x139 x140 x141 x142 x143 x144 x145 x146 x147 x148 x149 x150 x151 x152 x153 x154 x155 x156 x157 x158 x159 x160 x161 x162 x163 x164 x165 x166 x167 x168 x169 x170 x171 x172 x173 x174 x175 x176 x177 x178 x179 x180 x181 x182 x183 x184 x185 x186 x187 x188 x189 x190 x191 x192 x193 x194 x195 x196 x197 x198 x199 x200 x201 x202 x203 x204 x205 x206 x207 x208 x209 x210 x211 x212 x213 x214 x215 x216 x217 x218 x219 x220 x221 x222 x223 x224 x225 x226 x227 x228 x229 x230 x231 x232 x233 x234 x235 x236 x237 x238 x239 x240 x241 x242 x243 x244 x245 x246 x247 x248 x249 x250 x251 x252 x253 x254 x255 x256 x257 x258 x259 x260 x261 x262 x263 x264 x265 x266 x267 x268 x269 x270 x271 x272 x273 x274 x275 x276 x277 x278 x279 x280 x281 x282 x283 x284 x285 x286 x287 x288 x289 x290 x291 x292 x293 x294 x295 x296 x297 x298 x299 x300 x301 x302 x303 x304 x305 x306 x307 x308 x309 x310 x311 x312 x313 x314 x315 x316 x317 x318 x319 x320 x321 x322 x323 x324 x325 x326 x327 x328 x329
set_option maxRecDepth 1000000 in
set_option maxHeartbeats 16000000 in
theorem tr_conr_wp {Q : Exit → Act → World → Prop} {x : ByteArray} {w : World} {frs : List F7} {Aq : Option Addr} {cq i n : Nat} {wo : World} {D : Nat} {a : Nat} (hx4 : x.size ≤ 4000) (hax : a ≤ x.size) (hia : i ≤ a) (hE : ¬ (a < x.size ∧ a - i < 30 ∧ okName (x.extract i (a + 1)) = true) → ∀ a', Frm 330 [(0, .string x), (2, .pointer (some ⟨w.heap.size, 0, none⟩)), (3, .pointer (some ⟨w.heap.size + 1, 0, none⟩)), (4, .slice Aq frs.length cq), (5, .int .i64 (a : Nat)), (6, .int .i64 (n : Nat)), (7, .pointer (some ⟨w.heap.size + 2, 0, none⟩)), (8, .pointer (some ⟨D, 0, none⟩)), (14, .int .i64 (i : Nat))] a' → Q (.exit 4) a' wo) (hG : (a < x.size ∧ a - i < 30 ∧ okName (x.extract i (a + 1)) = true) → ∀ a', Frm 330 [(0, .string x), (2, .pointer (some ⟨w.heap.size, 0, none⟩)), (3, .pointer (some ⟨w.heap.size + 1, 0, none⟩)), (4, .slice Aq frs.length cq), (5, .int .i64 (a + 1 : Nat)), (6, .int .i64 (n : Nat)), (7, .pointer (some ⟨w.heap.size + 2, 0, none⟩)), (8, .pointer (some ⟨D, 0, none⟩)), (14, .int .i64 (i : Nat))] a' → Q .normal a' wo) : ∀ ac, Frm 330 [(0, .string x), (2, .pointer (some ⟨w.heap.size, 0, none⟩)), (3, .pointer (some ⟨w.heap.size + 1, 0, none⟩)), (4, .slice Aq frs.length cq), (5, .int .i64 (a : Nat)), (6, .int .i64 (n : Nat)), (7, .pointer (some ⟨w.heap.size + 2, 0, none⟩)), (8, .pointer (some ⟨D, 0, none⟩)), (14, .int .i64 (i : Nat))] ac → Code.wp Tryd.prog c_tr_conr Q ac wo := by
  refine open_tr_conr (P := fun a => Code.wp Tryd.prog c_tr_conr Q a wo) ?_
  intro x1 x9 x10 x11 x12 x13 x15 x16 x17 x18 x19 x20 x21 x22 x23 x24 x25 x26 x27 x28 x29 x30 x31 x32 x33 x34 x35 x36 x37 x38 x39 x40 x41 x42 x43 x44 x45 x46 x47 x48 x49 x50 x51 x52 x53 x54 x55 x56 x57 x58 x59 x60 x61 x62 x63 x64 x65 x66 x67 x68 x69 x70 x71 x72 x73 x74 x75 x76 x77 x78 x79 x80 x81 x82 x83 x84 x85 x86 x87 x88 x89 x90 x91 x92 x93 x94 x95 x96 x97 x98 x99 x100 x101 x102 x103 x104 x105 x106 x107 x108 x109 x110 x111 x112 x113 x114 x115 x116 x117 x118 x119 x120 x121 x122 x123 x124 x125 x126 x127 x128 x129 x130 x131 x132 x133 x134 x135 x136 x137 x138 x139 x140 x141 x142 x143 x144 x145 x146 x147 x148 x149 x150 x151 x152 x153 x154 x155 x156 x157 x158 x159 x160 x161 x162 x163 x164 x165 x166 x167 x168 x169 x170 x171 x172 x173 x174 x175 x176 x177 x178 x179 x180 x181 x182 x183 x184 x185 x186 x187 x188 x189 x190 x191 x192 x193 x194 x195 x196 x197 x198 x199 x200 x201 x202 x203 x204 x205 x206 x207 x208 x209 x210 x211 x212 x213 x214 x215 x216 x217 x218 x219 x220 x221 x222 x223 x224 x225 x226 x227 x228 x229 x230 x231 x232 x233 x234 x235 x236 x237 x238 x239 x240 x241 x242 x243 x244 x245 x246 x247 x248 x249 x250 x251 x252 x253 x254 x255 x256 x257 x258 x259 x260 x261 x262 x263 x264 x265 x266 x267 x268 x269 x270 x271 x272 x273 x274 x275 x276 x277 x278 x279 x280 x281 x282 x283 x284 x285 x286 x287 x288 x289 x290 x291 x292 x293 x294 x295 x296 x297 x298 x299 x300 x301 x302 x303 x304 x305 x306 x307 x308 x309 x310 x311 x312 x313 x314 x315 x316 x317 x318 x319 x320 x321 x322 x323 x324 x325 x326 x327 x328 x329
  conv => arg 2; whnf
  have ha4 : (a : Int) ≤ 4000 := by omega
  obtain ⟨bo, hbo⟩ : ∃ b, okName (x.extract i (a + 1)) = b := ⟨_, rfl⟩
  have hnm := fun (W : World) => refName_any (x.extract i (a + 1)) W (ext_le2 x i (a + 1) hx4)
  rw [hbo] at hnm
  have HE := Lib.hid hE
  have HG := Lib.hid hG
  have HNM := Lib.hid hnm
  have HBO := Lib.hid hbo
  clear hE hG hnm hbo
  by_cases hlt2 : a < x.size
  case neg =>
    have t1 : ¬ (a : Int) < (x.size : Int) := by omega
    have HF2 := Lib.hid (show ¬ (a < x.size ∧ a - i < 30 ∧ okName (x.extract i (a + 1)) = true) from fun h => hlt2 h.1)
    go_wp2_with fail
    exact HE.out HF2.out _ (id ⟨rfl, rfl, rfl, rfl, rfl, rfl, rfl, rfl, rfl, rfl, rfl, trivial⟩)
  have t1 : (a : Int) < (x.size : Int) := by omega
  by_cases h30 : a - i < 30
  case neg =>
    have t2 : ¬ (a : Int) - (i : Int) < 30 := by omega
    have HF2 := Lib.hid (show ¬ (a < x.size ∧ a - i < 30 ∧ okName (x.extract i (a + 1)) = true) from fun h => h30 h.2.1)
    go_wp2_with fail
    exact HE.out HF2.out _ (id ⟨rfl, rfl, rfl, rfl, rfl, rfl, rfl, rfl, rfl, rfl, rfl, trivial⟩)
  have t2 : (a : Int) - (i : Int) < 30 := by omega
  have t3 : (a : Int) + 1 ≤ (x.size : Int) := by omega
  have t4 : (i : Int) ≤ (a : Int) + 1 := by omega
  have hnx : (a : Int) + 1 = ((a + 1 : Nat) : Int) := by omega
  have HNX := Lib.hid hnx
  clear hnx
  go_wp2_with fail
  refine (HNM.out _).mono ?_
  rintro e w' ⟨rfl, rfl⟩
  cases bo with
  | true =>
    have HT2 := Lib.hid (show (a < x.size ∧ a - i < 30 ∧ okName (x.extract i (a + 1)) = true) from ⟨hlt2, h30, HBO.out⟩)
    go_wp2_with fail
    rw [HNX.out]
    exact HG.out HT2.out _ (id ⟨rfl, rfl, rfl, rfl, rfl, rfl, rfl, rfl, rfl, rfl, rfl, trivial⟩)
  | false =>
    have HF2 := Lib.hid (show ¬ (a < x.size ∧ a - i < 30 ∧ okName (x.extract i (a + 1)) = true) from fun h => by rw [HBO.out] at h; cases h.2.2)
    go_wp2_with fail
    exact HE.out HF2.out _ (id ⟨rfl, rfl, rfl, rfl, rfl, rfl, rfl, rfl, rfl, rfl, rfl, trivial⟩)
noncomputable def c_tr_conl : Code := sub [1, 1, 1, 1, 1, 0, 0, 0, 1, 1, 1, 1, 1, 1, 0, 1, 1, 1, 0, 0] (Tryd.f9.body.getD .skip)
theorem tr_conl_wp {Q : Exit → Act → World → Prop} {x : ByteArray} {w : World} {frs : List F7} {Aq : Option Addr} {cq i n : Nat} {wo : World} {D : Nat} (hx4 : x.size ≤ 4000) (hi : i ≤ x.size) (hE : nameE x i ≤ x.size → i ≤ nameE x i → ∀ a', Frm 330 [(0, .string x), (2, .pointer (some ⟨w.heap.size, 0, none⟩)), (3, .pointer (some ⟨w.heap.size + 1, 0, none⟩)), (4, .slice Aq frs.length cq), (5, .int .i64 (nameE x i : Nat)), (6, .int .i64 (n : Nat)), (7, .pointer (some ⟨w.heap.size + 2, 0, none⟩)), (8, .pointer (some ⟨D, 0, none⟩)), (14, .int .i64 (i : Nat))] a' → Q (.exit 4) a' wo) : ∀ ac, Frm 330 [(0, .string x), (2, .pointer (some ⟨w.heap.size, 0, none⟩)), (3, .pointer (some ⟨w.heap.size + 1, 0, none⟩)), (4, .slice Aq frs.length cq), (5, .int .i64 (i : Nat)), (6, .int .i64 (n : Nat)), (7, .pointer (some ⟨w.heap.size + 2, 0, none⟩)), (8, .pointer (some ⟨D, 0, none⟩)), (14, .int .i64 (i : Nat))] ac → Code.wp Tryd.prog c_tr_conl Q ac wo := by
  intro a0 hf0
  conv => arg 2; whnf
  refine wp_loopR (fun g a' w' => ∃ a : Nat, w' = wo ∧ i ≤ a ∧ a ≤ x.size ∧ a + g = x.size + 1 ∧ nameG x i g a = nameE x i ∧ Frm 330 [(0, .string x), (2, .pointer (some ⟨w.heap.size, 0, none⟩)), (3, .pointer (some ⟨w.heap.size + 1, 0, none⟩)), (4, .slice Aq frs.length cq), (5, .int .i64 (a : Nat)), (6, .int .i64 (n : Nat)), (7, .pointer (some ⟨w.heap.size + 2, 0, none⟩)), (8, .pointer (some ⟨D, 0, none⟩)), (14, .int .i64 (i : Nat))] a') (x.size + 1 - i) ⟨i, rfl, Nat.le_refl _, hi, by omega, rfl, hf0⟩ ?_
  rintro g a1 w1 ⟨a, rfl, hia, hax, hag, hg, hfr⟩
  refine tr_conr_wp hx4 hax hia (fun hs a' hf' => ?_) (fun hs a' hf' => ?_) a1 hfr
  · have hE2 : nameE x i = a := hg.symm.trans (nameG_stop2 hs)
    rw [hE2] at hE
    exact hE hax hia a' hf'
  · obtain ⟨g2, rfl⟩ : ∃ g2, g = g2 + 1 := ⟨g - 1, by omega⟩
    rw [nameG_go2 hs] at hg
    exact ⟨g2, Nat.lt_succ_self _, a + 1, rfl, by omega, by have := hs.1; omega, by omega, hg, hf'⟩
noncomputable def c_tr_conc : Code := sub [1, 1, 1, 1, 1, 0, 0, 0, 1, 1, 1, 1, 1, 1, 0, 1, 1, 1, 1, 0] (Tryd.f9.body.getD .skip)
set_option maxRecDepth 1000000 in
theorem open_tr_conc {P : Act → Prop} {v0 v1 v2 v3 v4 v5 v6 v7 v8 : Value} (h : ∀ x1 x9 x10 x11 x12 x13 x15 x16 x17 x18 x19 x20 x21 x22 x23 x24 x25 x26 x27 x28 x29 x30 x31 x32 x33 x34 x35 x36 x37 x38 x39 x40 x41 x42 x43 x44 x45 x46 x47 x48 x49 x50 x51 x52 x53 x54 x55 x56 x57 x58 x59 x60 x61 x62 x63 x64 x65 x66 x67 x68 x69 x70 x71 x72 x73 x74 x75 x76 x77 x78 x79 x80 x81 x82 x83 x84 x85 x86 x87 x88 x89 x90 x91 x92 x93 x94 x95 x96 x97 x98 x99 x100 x101 x102 x103 x104 x105 x106 x107 x108 x109 x110 x111 x112 x113 x114 x115 x116 x117 x118 x119 x120 x121 x122 x123 x124 x125 x126 x127 x128 x129 x130 x131 x132 x133 x134 x135 x136 x137 x138 x139 x140 x141 x142 x143 x144 x145 x146 x147 x148 x149 x150 x151 x152 x153 x154 x155 x156 x157 x158 x159 x160 x161 x162 x163 x164 x165 x166 x167 x168 x169 x170 x171 x172 x173 x174 x175 x176 x177 x178 x179 x180 x181 x182 x183 x184 x185 x186 x187 x188 x189 x190 x191 x192 x193 x194 x195 x196 x197 x198 x199 x200 x201 x202 x203 x204 x205 x206 x207 x208 x209 x210 x211 x212 x213 x214 x215 x216 x217 x218 x219 x220 x221 x222 x223 x224 x225 x226 x227 x228 x229 x230 x231 x232 x233 x234 x235 x236 x237 x238 x239 x240 x241 x242 x243 x244 x245 x246 x247 x248 x249 x250 x251 x252 x253 x254 x255 x256 x257 x258 x259 x260 x261 x262 x263 x264 x265 x266 x267 x268 x269 x270 x271 x272 x273 x274 x275 x276 x277 x278 x279 x280 x281 x282 x283 x284 x285 x286 x287 x288 x289 x290 x291 x292 x293 x294 x295 x296 x297 x298 x299 x300 x301 x302 x303 x304 x305 x306 x307 x308 x309 x310 x311 x312 x313 x314 x315 x316 x317 x318 x319 x320 x321 x322 x323 x324 x325 x326 x327 x328 x329 : Value, P ⟨(v0 :: x1 :: v1 :: v2 :: v3 :: v4 :: v5 :: v6 :: v7 :: x9 :: x10 :: x11 :: x12 :: x13 :: v8 :: x15 :: x16 :: x17 :: x18 :: x19 :: x20 :: x21 :: x22 :: x23 :: x24 :: x25 :: x26 :: x27 :: x28 :: x29 :: x30 :: x31 :: x32 :: x33 :: x34 :: x35 :: x36 :: x37 :: x38 :: x39 :: x40 :: x41 :: x42 :: x43 :: x44 :: x45 :: x46 :: x47 :: x48 :: x49 :: x50 :: x51 :: x52 :: x53 :: x54 :: x55 :: x56 :: x57 :: x58 :: x59 :: x60 :: x61 :: x62 :: x63 :: x64 :: x65 :: x66 :: x67 :: x68 :: x69 :: x70 :: x71 :: x72 :: x73 :: x74 :: x75 :: x76 :: x77 :: x78 :: x79 :: x80 :: x81 :: x82 :: x83 :: x84 :: x85 :: x86 :: x87 :: x88 :: x89 :: x90 :: x91 :: x92 :: x93 :: x94 :: x95 :: x96 :: x97 :: x98 :: x99 :: x100 :: x101 :: x102 :: x103 :: x104 :: x105 :: x106 :: x107 :: x108 :: x109 :: x110 :: x111 :: x112 :: x113 :: x114 :: x115 :: x116 :: x117 :: x118 :: x119 :: x120 :: x121 :: x122 :: x123 :: x124 :: x125 :: x126 :: x127 :: x128 :: x129 :: x130 :: x131 :: x132 :: x133 :: x134 :: x135 :: x136 :: x137 :: x138 :: x139 :: x140 :: x141 :: x142 :: x143 :: x144 :: x145 :: x146 :: x147 :: x148 :: x149 :: x150 :: x151 :: x152 :: x153 :: x154 :: x155 :: x156 :: x157 :: x158 :: x159 :: x160 :: x161 :: x162 :: x163 :: x164 :: x165 :: x166 :: x167 :: x168 :: x169 :: x170 :: x171 :: x172 :: x173 :: x174 :: x175 :: x176 :: x177 :: x178 :: x179 :: x180 :: x181 :: x182 :: x183 :: x184 :: x185 :: x186 :: x187 :: x188 :: x189 :: x190 :: x191 :: x192 :: x193 :: x194 :: x195 :: x196 :: x197 :: x198 :: x199 :: x200 :: x201 :: x202 :: x203 :: x204 :: x205 :: x206 :: x207 :: x208 :: x209 :: x210 :: x211 :: x212 :: x213 :: x214 :: x215 :: x216 :: x217 :: x218 :: x219 :: x220 :: x221 :: x222 :: x223 :: x224 :: x225 :: x226 :: x227 :: x228 :: x229 :: x230 :: x231 :: x232 :: x233 :: x234 :: x235 :: x236 :: x237 :: x238 :: x239 :: x240 :: x241 :: x242 :: x243 :: x244 :: x245 :: x246 :: x247 :: x248 :: x249 :: x250 :: x251 :: x252 :: x253 :: x254 :: x255 :: x256 :: x257 :: x258 :: x259 :: x260 :: x261 :: x262 :: x263 :: x264 :: x265 :: x266 :: x267 :: x268 :: x269 :: x270 :: x271 :: x272 :: x273 :: x274 :: x275 :: x276 :: x277 :: x278 :: x279 :: x280 :: x281 :: x282 :: x283 :: x284 :: x285 :: x286 :: x287 :: x288 :: x289 :: x290 :: x291 :: x292 :: x293 :: x294 :: x295 :: x296 :: x297 :: x298 :: x299 :: x300 :: x301 :: x302 :: x303 :: x304 :: x305 :: x306 :: x307 :: x308 :: x309 :: x310 :: x311 :: x312 :: x313 :: x314 :: x315 :: x316 :: x317 :: x318 :: x319 :: x320 :: x321 :: x322 :: x323 :: x324 :: x325 :: x326 :: x327 :: x328 :: x329 :: []).toArray, []⟩) : ∀ a, Frm 330 [(0, v0), (2, v1), (3, v2), (4, v3), (5, v4), (6, v5), (7, v6), (8, v7), (14, v8)] a → P a := by
  rintro a ⟨h1, h2, e0, e1, e2, e3, e4, e5, e6, e7, e8, _⟩
  revert e0 e1 e2 e3 e4 e5 e6 e7 e8
  refine frame_tr (P := fun a => a.tmps.toList[0]? = some v0 → a.tmps.toList[2]? = some v1 → a.tmps.toList[3]? = some v2 → a.tmps.toList[4]? = some v3 → a.tmps.toList[5]? = some v4 → a.tmps.toList[6]? = some v5 → a.tmps.toList[7]? = some v6 → a.tmps.toList[8]? = some v7 → a.tmps.toList[14]? = some v8 → P a) ?_ a h1 h2
  intro x0 x1 x2 x3 x4 x5 x6 x7 x8 x9 x10 x11 x12 x13 x14 x15 x16 x17 x18 x19 x20 x21 x22 x23 x24 x25 x26 x27 x28 x29 x30 x31 x32 x33 x34 x35 x36 x37 x38 x39 x40 x41 x42 x43 x44 x45 x46 x47 x48 x49 x50 x51 x52 x53 x54 x55 x56 x57 x58 x59 x60 x61 x62 x63 x64 x65 x66 x67 x68 x69 x70 x71 x72 x73 x74 x75 x76 x77 x78 x79 x80 x81 x82 x83 x84 x85 x86 x87 x88 x89 x90 x91 x92 x93 x94 x95 x96 x97 x98 x99 x100 x101 x102 x103 x104 x105 x106 x107 x108 x109 x110 x111 x112 x113 x114 x115 x116 x117 x118 x119 x120 x121 x122 x123 x124 x125 x126 x127 x128 x129 x130 x131 x132 x133 x134 x135 x136 x137 x138 x139 x140 x141 x142 x143 x144 x145 x146 x147 x148 x149 x150 x151 x152 x153 x154 x155 x156 x157 x158 x159 x160 x161 x162 x163 x164 x165 x166 x167 x168 x169 x170 x171 x172 x173 x174 x175 x176 x177 x178 x179 x180 x181 x182 x183 x184 x185 x186 x187 x188 x189 x190 x191 x192 x193 x194 x195 x196 x197 x198 x199 x200 x201 x202 x203 x204 x205 x206 x207 x208 x209 x210 x211 x212 x213 x214 x215 x216 x217 x218 x219 x220 x221 x222 x223 x224 x225 x226 x227 x228 x229 x230 x231 x232 x233 x234 x235 x236 x237 x238 x239 x240 x241 x242 x243 x244 x245 x246 x247 x248 x249 x250 x251 x252 x253 x254 x255 x256 x257 x258 x259 x260 x261 x262 x263 x264 x265 x266 x267 x268 x269 x270 x271 x272 x273 x274 x275 x276 x277 x278 x279 x280 x281 x282 x283 x284 x285 x286 x287 x288 x289 x290 x291 x292 x293 x294 x295 x296 x297 x298 x299 x300 x301 x302 x303 x304 x305 x306 x307 x308 x309 x310 x311 x312 x313 x314 x315 x316 x317 x318 x319 x320 x321 x322 x323 x324 x325 x326 x327 x328 x329 e0 e1 e2 e3 e4 e5 e6 e7 e8
  obtain rfl : x0 = v0 := Option.some.inj e0
  obtain rfl : x2 = v1 := Option.some.inj e1
  obtain rfl : x3 = v2 := Option.some.inj e2
  obtain rfl : x4 = v3 := Option.some.inj e3
  obtain rfl : x5 = v4 := Option.some.inj e4
  obtain rfl : x6 = v5 := Option.some.inj e5
  obtain rfl : x7 = v6 := Option.some.inj e6
  obtain rfl : x8 = v7 := Option.some.inj e7
  obtain rfl : x14 = v8 := Option.some.inj e8
  exact h x1 x9 x10 x11 x12 x13 x15 x16 x17 x18 x19 x20 x21 x22 x23 x24 x25 x26 x27 x28 x29 x30 x31 x32 x33 x34 x35 x36 x37 x38 x39 x40 x41 x42 x43 x44 x45 x46 x47 x48 x49 x50 x51 x52 x53 x54 x55 x56 x57 x58 x59 x60 x61 x62 x63 x64 x65 x66 x67 x68 x69 x70 x71 x72 x73 x74 x75 x76 x77 x78 x79 x80 x81 x82 x83 x84 x85 x86 x87 x88 x89 x90 x91 x92 x93 x94 x95 x96 x97 x98 x99 x100 x101 x102 x103 x104 x105 x106 x107 x108 x109 x110 x111 x112 x113 x114 x115 x116 x117 x118 x119 x120 x121 x122 x123 x124 x125 x126 x127 x128 x129 x130 x131 x132 x133 x134 x135 x136 x137 x138 x139 x140 x141 x142 x143 x144 x145 x146 x147 x148 x149 x150 x151 x152 x153 x154 x155 x156 x157 x158 x159 x160 x161 x162 x163 x164 x165 x166 x167 x168 x169 x170 x171 x172 x173 x174 x175 x176 x177 x178 x179 x180 x181 x182 x183 x184 x185 x186 x187 x188 x189 x190 x191 x192 x193 x194 x195 x196 x197 x198 x199 x200 x201 x202 x203 x204 x205 x206 x207 x208 x209 x210 x211 x212 x213 x214 x215 x216 x217 x218 x219 x220 x221 x222 x223 x224 x225 x226 x227 x228 x229 x230 x231 x232 x233 x234 x235 x236 x237 x238 x239 x240 x241 x242 x243 x244 x245 x246 x247 x248 x249 x250 x251 x252 x253 x254 x255 x256 x257 x258 x259 x260 x261 x262 x263 x264 x265 x266 x267 x268 x269 x270 x271 x272 x273 x274 x275 x276 x277 x278 x279 x280 x281 x282 x283 x284 x285 x286 x287 x288 x289 x290 x291 x292 x293 x294 x295 x296 x297 x298 x299 x300 x301 x302 x303 x304 x305 x306 x307 x308 x309 x310 x311 x312 x313 x314 x315 x316 x317 x318 x319 x320 x321 x322 x323 x324 x325 x326 x327 x328 x329
set_option maxRecDepth 1000000 in
set_option maxHeartbeats 16000000 in
theorem tr_conc_wp {Q : Exit → Act → World → Prop} {x : ByteArray} {w : World} {frs : List F7} {Aq : Option Addr} {cq i n : Nat} {wo : World} {D : Nat} {a : Nat} (hx4 : x.size ≤ 4000) (hm : TMem w wo frs Aq cq (D)) (hblk : ∀ b, (Value.slice Aq frs.length cq).ownBlock = some b → w.heap.size + 3 ≤ b ∧ b < D) (hR : byteAt x a ≠ 58 → ∀ a' w', Frm 330 [(2, .pointer (some ⟨w.heap.size, 0, none⟩)), (3, .pointer (some ⟨w.heap.size + 1, 0, none⟩))] a' → w'.heap[w.heap.size]? = some (.cells #[.int .i64 0, .string ⟨#[]⟩, .int .i64 0, .string ⟨#[]⟩, .slice none 0 0, .slice none 0 0] 27 (0, 0)) → w'.heap[w.heap.size + 1]? = some (.cells #[.int .i64 11, .int .i64 (a : Nat)] 29 (0, 0)) → Below w.heap.size w w' → Q .ret a' w') (hN : byteAt x a = 58 → ∀ a', Frm 330 [(0, .string x), (2, .pointer (some ⟨w.heap.size, 0, none⟩)), (3, .pointer (some ⟨w.heap.size + 1, 0, none⟩)), (4, .slice Aq frs.length cq), (5, .int .i64 (a : Nat)), (6, .int .i64 (n : Nat)), (7, .pointer (some ⟨w.heap.size + 2, 0, none⟩)), (8, .pointer (some ⟨D, 0, none⟩)), (14, .int .i64 (i : Nat))] a' → Q .normal a' wo) : ∀ ac, Frm 330 [(0, .string x), (2, .pointer (some ⟨w.heap.size, 0, none⟩)), (3, .pointer (some ⟨w.heap.size + 1, 0, none⟩)), (4, .slice Aq frs.length cq), (5, .int .i64 (a : Nat)), (6, .int .i64 (n : Nat)), (7, .pointer (some ⟨w.heap.size + 2, 0, none⟩)), (8, .pointer (some ⟨D, 0, none⟩)), (14, .int .i64 (i : Nat))] ac → Code.wp Tryd.prog c_tr_conc Q ac wo := by
  refine open_tr_conc (P := fun a => Code.wp Tryd.prog c_tr_conc Q a wo) ?_
  intro x1 x9 x10 x11 x12 x13 x15 x16 x17 x18 x19 x20 x21 x22 x23 x24 x25 x26 x27 x28 x29 x30 x31 x32 x33 x34 x35 x36 x37 x38 x39 x40 x41 x42 x43 x44 x45 x46 x47 x48 x49 x50 x51 x52 x53 x54 x55 x56 x57 x58 x59 x60 x61 x62 x63 x64 x65 x66 x67 x68 x69 x70 x71 x72 x73 x74 x75 x76 x77 x78 x79 x80 x81 x82 x83 x84 x85 x86 x87 x88 x89 x90 x91 x92 x93 x94 x95 x96 x97 x98 x99 x100 x101 x102 x103 x104 x105 x106 x107 x108 x109 x110 x111 x112 x113 x114 x115 x116 x117 x118 x119 x120 x121 x122 x123 x124 x125 x126 x127 x128 x129 x130 x131 x132 x133 x134 x135 x136 x137 x138 x139 x140 x141 x142 x143 x144 x145 x146 x147 x148 x149 x150 x151 x152 x153 x154 x155 x156 x157 x158 x159 x160 x161 x162 x163 x164 x165 x166 x167 x168 x169 x170 x171 x172 x173 x174 x175 x176 x177 x178 x179 x180 x181 x182 x183 x184 x185 x186 x187 x188 x189 x190 x191 x192 x193 x194 x195 x196 x197 x198 x199 x200 x201 x202 x203 x204 x205 x206 x207 x208 x209 x210 x211 x212 x213 x214 x215 x216 x217 x218 x219 x220 x221 x222 x223 x224 x225 x226 x227 x228 x229 x230 x231 x232 x233 x234 x235 x236 x237 x238 x239 x240 x241 x242 x243 x244 x245 x246 x247 x248 x249 x250 x251 x252 x253 x254 x255 x256 x257 x258 x259 x260 x261 x262 x263 x264 x265 x266 x267 x268 x269 x270 x271 x272 x273 x274 x275 x276 x277 x278 x279 x280 x281 x282 x283 x284 x285 x286 x287 x288 x289 x290 x291 x292 x293 x294 x295 x296 x297 x298 x299 x300 x301 x302 x303 x304 x305 x306 x307 x308 x309 x310 x311 x312 x313 x314 x315 x316 x317 x318 x319 x320 x321 x322 x323 x324 x325 x326 x327 x328 x329
  conv => arg 2; whnf
  have HR := Lib.hid hR
  have HN := Lib.hid hN
  clear hR hN
  have hbz := FsOk.base hm.fs
  obtain ⟨hown, hfrs, ⟨pz, pf, pn⟩, hB⟩ := hm
  have HOWN := Lib.hid hown
  have HFRS := Lib.hid hfrs
  have HB := Lib.hid hB
  have HBLK := Lib.hid hblk
  clear hown hfrs hB hblk
  have pz_0 := cv0 pz
  have pz_1 := cv1 pz
  have pz_2 := cv2 pz
  have pz_3 := cv3 pz
  have pz_4 := cv4 pz
  have pz_5 := cv5 pz
  have pz_f0 := free_heap pz 0
  have pz_f1 := free_heap pz 1
  have pz_f2 := free_heap pz 2
  have pz_f3 := free_heap pz 3
  have pz_f4 := free_heap pz 4
  have pz_f5 := free_heap pz 5
  have pz_l := lt_heap pz
  have PZ := Lib.hid pz
  clear pz
  have pf_0 := cv0 pf
  have pf_1 := cv1 pf
  have pf_f0 := free_heap pf 0
  have pf_f1 := free_heap pf 1
  have pf_l := lt_heap pf
  have PF := Lib.hid pf
  clear pf
  have pn_0 := cv0 pn
  have pn_1 := cv1 pn
  have pn_2 := cv2 pn
  have pn_3 := cv3 pn
  have pn_4 := cv4 pn
  have pn_5 := cv5 pn
  have pn_l := lt_heap pn
  have PN := Lib.hid pn
  clear pn
  by_cases hl2 : a < x.size
  case neg =>
    have q1 : (x.size : Int) ≤ (a : Int) := by omega
    have hch : byteAt x a ≠ 58 := by rw [byteAt_out (by omega)]; decide
    have hr := HR.out hch
    have HR := Lib.hid hr
    have HCH := Lib.hid hch
    clear hr hch
    go_wp2_with fail
    exact HR.out _ _ (id ⟨rfl, rfl, rfl, rfl, trivial⟩) (far2 (by omega) (at6 PZ.out)) (at2 (far6 (by omega) PF.out)) (below2 (below6 HB.out (Nat.le_refl _)) (by omega))
  have q1 : ¬ (x.size : Int) ≤ (a : Int) := by omega
  have hb2 : byteAt x a = (x[a]'hl2).toNat := byteAt_in hl2
  by_cases hc2 : (x[a]'hl2).toNat = 58
  · have q2 : ((((x[a]'hl2).toNat : Nat) : Int) != 58) = false := by rw [hc2]; rfl
    have hch : byteAt x a = 58 := by rw [hb2]; exact hc2
    clear hb2 hc2
    have hn9 := HN.out hch
    have HN9 := Lib.hid hn9
    have HCH := Lib.hid hch
    clear hn9 hch
    go_wp2_with fail
    exact HN9.out _ (id ⟨rfl, rfl, rfl, rfl, rfl, rfl, rfl, rfl, rfl, rfl, rfl, trivial⟩)
  · have q2 : ((((x[a]'hl2).toNat : Nat) : Int) != 58) = true := bne_iff_ne.2 (by omega)
    have hch : byteAt x a ≠ 58 := by rw [hb2]; exact hc2
    clear hb2 hc2
    have hr := HR.out hch
    have HR := Lib.hid hr
    have HCH := Lib.hid hch
    clear hr hch
    go_wp2_with fail
    exact HR.out _ _ (id ⟨rfl, rfl, rfl, rfl, trivial⟩) (far2 (by omega) (at6 PZ.out)) (at2 (far6 (by omega) PF.out)) (below2 (below6 HB.out (Nat.le_refl _)) (by omega))
noncomputable def c_tr_cont : Code := sub [1, 1, 1, 1, 1, 0, 0, 0, 1, 1, 1, 1, 1, 1, 0, 1, 1, 1, 1, 1] (Tryd.f9.body.getD .skip)
set_option maxRecDepth 1000000 in
theorem open_tr_cont {P : Act → Prop} {v0 v1 v2 v3 v4 v5 v6 v7 v8 : Value} (h : ∀ x1 x9 x10 x11 x12 x13 x15 x16 x17 x18 x19 x20 x21 x22 x23 x24 x25 x26 x27 x28 x29 x30 x31 x32 x33 x34 x35 x36 x37 x38 x39 x40 x41 x42 x43 x44 x45 x46 x47 x48 x49 x50 x51 x52 x53 x54 x55 x56 x57 x58 x59 x60 x61 x62 x63 x64 x65 x66 x67 x68 x69 x70 x71 x72 x73 x74 x75 x76 x77 x78 x79 x80 x81 x82 x83 x84 x85 x86 x87 x88 x89 x90 x91 x92 x93 x94 x95 x96 x97 x98 x99 x100 x101 x102 x103 x104 x105 x106 x107 x108 x109 x110 x111 x112 x113 x114 x115 x116 x117 x118 x119 x120 x121 x122 x123 x124 x125 x126 x127 x128 x129 x130 x131 x132 x133 x134 x135 x136 x137 x138 x139 x140 x141 x142 x143 x144 x145 x146 x147 x148 x149 x150 x151 x152 x153 x154 x155 x156 x157 x158 x159 x160 x161 x162 x163 x164 x165 x166 x167 x168 x169 x170 x171 x172 x173 x174 x175 x176 x177 x178 x179 x180 x181 x182 x183 x184 x185 x186 x187 x188 x189 x190 x191 x192 x193 x194 x195 x196 x197 x198 x199 x200 x201 x202 x203 x204 x205 x206 x207 x208 x209 x210 x211 x212 x213 x214 x215 x216 x217 x218 x219 x220 x221 x222 x223 x224 x225 x226 x227 x228 x229 x230 x231 x232 x233 x234 x235 x236 x237 x238 x239 x240 x241 x242 x243 x244 x245 x246 x247 x248 x249 x250 x251 x252 x253 x254 x255 x256 x257 x258 x259 x260 x261 x262 x263 x264 x265 x266 x267 x268 x269 x270 x271 x272 x273 x274 x275 x276 x277 x278 x279 x280 x281 x282 x283 x284 x285 x286 x287 x288 x289 x290 x291 x292 x293 x294 x295 x296 x297 x298 x299 x300 x301 x302 x303 x304 x305 x306 x307 x308 x309 x310 x311 x312 x313 x314 x315 x316 x317 x318 x319 x320 x321 x322 x323 x324 x325 x326 x327 x328 x329 : Value, P ⟨(v0 :: x1 :: v1 :: v2 :: v3 :: v4 :: v5 :: v6 :: v7 :: x9 :: x10 :: x11 :: x12 :: x13 :: v8 :: x15 :: x16 :: x17 :: x18 :: x19 :: x20 :: x21 :: x22 :: x23 :: x24 :: x25 :: x26 :: x27 :: x28 :: x29 :: x30 :: x31 :: x32 :: x33 :: x34 :: x35 :: x36 :: x37 :: x38 :: x39 :: x40 :: x41 :: x42 :: x43 :: x44 :: x45 :: x46 :: x47 :: x48 :: x49 :: x50 :: x51 :: x52 :: x53 :: x54 :: x55 :: x56 :: x57 :: x58 :: x59 :: x60 :: x61 :: x62 :: x63 :: x64 :: x65 :: x66 :: x67 :: x68 :: x69 :: x70 :: x71 :: x72 :: x73 :: x74 :: x75 :: x76 :: x77 :: x78 :: x79 :: x80 :: x81 :: x82 :: x83 :: x84 :: x85 :: x86 :: x87 :: x88 :: x89 :: x90 :: x91 :: x92 :: x93 :: x94 :: x95 :: x96 :: x97 :: x98 :: x99 :: x100 :: x101 :: x102 :: x103 :: x104 :: x105 :: x106 :: x107 :: x108 :: x109 :: x110 :: x111 :: x112 :: x113 :: x114 :: x115 :: x116 :: x117 :: x118 :: x119 :: x120 :: x121 :: x122 :: x123 :: x124 :: x125 :: x126 :: x127 :: x128 :: x129 :: x130 :: x131 :: x132 :: x133 :: x134 :: x135 :: x136 :: x137 :: x138 :: x139 :: x140 :: x141 :: x142 :: x143 :: x144 :: x145 :: x146 :: x147 :: x148 :: x149 :: x150 :: x151 :: x152 :: x153 :: x154 :: x155 :: x156 :: x157 :: x158 :: x159 :: x160 :: x161 :: x162 :: x163 :: x164 :: x165 :: x166 :: x167 :: x168 :: x169 :: x170 :: x171 :: x172 :: x173 :: x174 :: x175 :: x176 :: x177 :: x178 :: x179 :: x180 :: x181 :: x182 :: x183 :: x184 :: x185 :: x186 :: x187 :: x188 :: x189 :: x190 :: x191 :: x192 :: x193 :: x194 :: x195 :: x196 :: x197 :: x198 :: x199 :: x200 :: x201 :: x202 :: x203 :: x204 :: x205 :: x206 :: x207 :: x208 :: x209 :: x210 :: x211 :: x212 :: x213 :: x214 :: x215 :: x216 :: x217 :: x218 :: x219 :: x220 :: x221 :: x222 :: x223 :: x224 :: x225 :: x226 :: x227 :: x228 :: x229 :: x230 :: x231 :: x232 :: x233 :: x234 :: x235 :: x236 :: x237 :: x238 :: x239 :: x240 :: x241 :: x242 :: x243 :: x244 :: x245 :: x246 :: x247 :: x248 :: x249 :: x250 :: x251 :: x252 :: x253 :: x254 :: x255 :: x256 :: x257 :: x258 :: x259 :: x260 :: x261 :: x262 :: x263 :: x264 :: x265 :: x266 :: x267 :: x268 :: x269 :: x270 :: x271 :: x272 :: x273 :: x274 :: x275 :: x276 :: x277 :: x278 :: x279 :: x280 :: x281 :: x282 :: x283 :: x284 :: x285 :: x286 :: x287 :: x288 :: x289 :: x290 :: x291 :: x292 :: x293 :: x294 :: x295 :: x296 :: x297 :: x298 :: x299 :: x300 :: x301 :: x302 :: x303 :: x304 :: x305 :: x306 :: x307 :: x308 :: x309 :: x310 :: x311 :: x312 :: x313 :: x314 :: x315 :: x316 :: x317 :: x318 :: x319 :: x320 :: x321 :: x322 :: x323 :: x324 :: x325 :: x326 :: x327 :: x328 :: x329 :: []).toArray, []⟩) : ∀ a, Frm 330 [(0, v0), (2, v1), (3, v2), (4, v3), (5, v4), (6, v5), (7, v6), (8, v7), (14, v8)] a → P a := by
  rintro a ⟨h1, h2, e0, e1, e2, e3, e4, e5, e6, e7, e8, _⟩
  revert e0 e1 e2 e3 e4 e5 e6 e7 e8
  refine frame_tr (P := fun a => a.tmps.toList[0]? = some v0 → a.tmps.toList[2]? = some v1 → a.tmps.toList[3]? = some v2 → a.tmps.toList[4]? = some v3 → a.tmps.toList[5]? = some v4 → a.tmps.toList[6]? = some v5 → a.tmps.toList[7]? = some v6 → a.tmps.toList[8]? = some v7 → a.tmps.toList[14]? = some v8 → P a) ?_ a h1 h2
  intro x0 x1 x2 x3 x4 x5 x6 x7 x8 x9 x10 x11 x12 x13 x14 x15 x16 x17 x18 x19 x20 x21 x22 x23 x24 x25 x26 x27 x28 x29 x30 x31 x32 x33 x34 x35 x36 x37 x38 x39 x40 x41 x42 x43 x44 x45 x46 x47 x48 x49 x50 x51 x52 x53 x54 x55 x56 x57 x58 x59 x60 x61 x62 x63 x64 x65 x66 x67 x68 x69 x70 x71 x72 x73 x74 x75 x76 x77 x78 x79 x80 x81 x82 x83 x84 x85 x86 x87 x88 x89 x90 x91 x92 x93 x94 x95 x96 x97 x98 x99 x100 x101 x102 x103 x104 x105 x106 x107 x108 x109 x110 x111 x112 x113 x114 x115 x116 x117 x118 x119 x120 x121 x122 x123 x124 x125 x126 x127 x128 x129 x130 x131 x132 x133 x134 x135 x136 x137 x138 x139 x140 x141 x142 x143 x144 x145 x146 x147 x148 x149 x150 x151 x152 x153 x154 x155 x156 x157 x158 x159 x160 x161 x162 x163 x164 x165 x166 x167 x168 x169 x170 x171 x172 x173 x174 x175 x176 x177 x178 x179 x180 x181 x182 x183 x184 x185 x186 x187 x188 x189 x190 x191 x192 x193 x194 x195 x196 x197 x198 x199 x200 x201 x202 x203 x204 x205 x206 x207 x208 x209 x210 x211 x212 x213 x214 x215 x216 x217 x218 x219 x220 x221 x222 x223 x224 x225 x226 x227 x228 x229 x230 x231 x232 x233 x234 x235 x236 x237 x238 x239 x240 x241 x242 x243 x244 x245 x246 x247 x248 x249 x250 x251 x252 x253 x254 x255 x256 x257 x258 x259 x260 x261 x262 x263 x264 x265 x266 x267 x268 x269 x270 x271 x272 x273 x274 x275 x276 x277 x278 x279 x280 x281 x282 x283 x284 x285 x286 x287 x288 x289 x290 x291 x292 x293 x294 x295 x296 x297 x298 x299 x300 x301 x302 x303 x304 x305 x306 x307 x308 x309 x310 x311 x312 x313 x314 x315 x316 x317 x318 x319 x320 x321 x322 x323 x324 x325 x326 x327 x328 x329 e0 e1 e2 e3 e4 e5 e6 e7 e8
  obtain rfl : x0 = v0 := Option.some.inj e0
  obtain rfl : x2 = v1 := Option.some.inj e1
  obtain rfl : x3 = v2 := Option.some.inj e2
  obtain rfl : x4 = v3 := Option.some.inj e3
  obtain rfl : x5 = v4 := Option.some.inj e4
  obtain rfl : x6 = v5 := Option.some.inj e5
  obtain rfl : x7 = v6 := Option.some.inj e6
  obtain rfl : x8 = v7 := Option.some.inj e7
  obtain rfl : x14 = v8 := Option.some.inj e8
  exact h x1 x9 x10 x11 x12 x13 x15 x16 x17 x18 x19 x20 x21 x22 x23 x24 x25 x26 x27 x28 x29 x30 x31 x32 x33 x34 x35 x36 x37 x38 x39 x40 x41 x42 x43 x44 x45 x46 x47 x48 x49 x50 x51 x52 x53 x54 x55 x56 x57 x58 x59 x60 x61 x62 x63 x64 x65 x66 x67 x68 x69 x70 x71 x72 x73 x74 x75 x76 x77 x78 x79 x80 x81 x82 x83 x84 x85 x86 x87 x88 x89 x90 x91 x92 x93 x94 x95 x96 x97 x98 x99 x100 x101 x102 x103 x104 x105 x106 x107 x108 x109 x110 x111 x112 x113 x114 x115 x116 x117 x118 x119 x120 x121 x122 x123 x124 x125 x126 x127 x128 x129 x130 x131 x132 x133 x134 x135 x136 x137 x138 x139 x140 x141 x142 x143 x144 x145 x146 x147 x148 x149 x150 x151 x152 x153 x154 x155 x156 x157 x158 x159 x160 x161 x162 x163 x164 x165 x166 x167 x168 x169 x170 x171 x172 x173 x174 x175 x176 x177 x178 x179 x180 x181 x182 x183 x184 x185 x186 x187 x188 x189 x190 x191 x192 x193 x194 x195 x196 x197 x198 x199 x200 x201 x202 x203 x204 x205 x206 x207 x208 x209 x210 x211 x212 x213 x214 x215 x216 x217 x218 x219 x220 x221 x222 x223 x224 x225 x226 x227 x228 x229 x230 x231 x232 x233 x234 x235 x236 x237 x238 x239 x240 x241 x242 x243 x244 x245 x246 x247 x248 x249 x250 x251 x252 x253 x254 x255 x256 x257 x258 x259 x260 x261 x262 x263 x264 x265 x266 x267 x268 x269 x270 x271 x272 x273 x274 x275 x276 x277 x278 x279 x280 x281 x282 x283 x284 x285 x286 x287 x288 x289 x290 x291 x292 x293 x294 x295 x296 x297 x298 x299 x300 x301 x302 x303 x304 x305 x306 x307 x308 x309 x310 x311 x312 x313 x314 x315 x316 x317 x318 x319 x320 x321 x322 x323 x324 x325 x326 x327 x328 x329
set_option maxRecDepth 1000000 in
set_option maxHeartbeats 16000000 in
theorem tr_cont_wp {Q : Exit → Act → World → Prop} {x : ByteArray} {w : World} {frs : List F7} {Aq : Option Addr} {cq i n : Nat} {wo : World} {D : Nat} {a : Nat} (hx4 : x.size ≤ 4000) (hax : a < x.size) (hia : i ≤ a) (hm : TMem w wo frs Aq cq (D)) (hD : D < wo.heap.size) (hblk : ∀ b, (Value.slice Aq frs.length cq).ownBlock = some b → w.heap.size + 3 ≤ b ∧ b < D) (hd : wo.heap[D]? = some (.cells #[.int .i64 0, .string ⟨#[]⟩, .int .i64 0, .string ⟨#[]⟩, .slice none 0 0, .slice none 0 0] 27 (0, 0))) (hR1 : ∀ c b, rd x 40 (a + 1) 0 = .bad c b → c ≠ 0 ∧ ∀ a' w', Frm 330 [(2, .pointer (some ⟨w.heap.size, 0, none⟩)), (3, .pointer (some ⟨w.heap.size + 1, 0, none⟩))] a' → w'.heap[w.heap.size]? = some (.cells #[.int .i64 0, .string ⟨#[]⟩, .int .i64 0, .string ⟨#[]⟩, .slice none 0 0, .slice none 0 0] 27 (0, 0)) → w'.heap[w.heap.size + 1]? = some (.cells #[.int .i64 (c : Nat), .int .i64 (b : Nat)] 29 (0, 0)) → Below w.heap.size w w' → Q .ret a' w') (hN : ∀ s b m, rd x 40 (a + 1) 0 = .ok s b m → ∀ dc a' wx, Frm 330 [(0, .string x), (2, .pointer (some ⟨w.heap.size, 0, none⟩)), (3, .pointer (some ⟨w.heap.size + 1, 0, none⟩)), (4, .slice Aq frs.length cq), (5, .int .i64 (b : Nat)), (6, .int .i64 (n : Nat)), (7, .pointer (some ⟨w.heap.size + 2, 0, none⟩)), (8, .pointer (some ⟨D, 0, none⟩))] a' → LeafAt w wo wx frs Aq cq D (.con (x.extract i a) s) dc → Q .normal a' wx) : ∀ ac, Frm 330 [(0, .string x), (2, .pointer (some ⟨w.heap.size, 0, none⟩)), (3, .pointer (some ⟨w.heap.size + 1, 0, none⟩)), (4, .slice Aq frs.length cq), (5, .int .i64 (a : Nat)), (6, .int .i64 (n : Nat)), (7, .pointer (some ⟨w.heap.size + 2, 0, none⟩)), (8, .pointer (some ⟨D, 0, none⟩)), (14, .int .i64 (i : Nat))] ac → Code.wp Tryd.prog c_tr_cont Q ac wo := by
  refine open_tr_cont (P := fun a => Code.wp Tryd.prog c_tr_cont Q a wo) ?_
  intro x1 x9 x10 x11 x12 x13 x15 x16 x17 x18 x19 x20 x21 x22 x23 x24 x25 x26 x27 x28 x29 x30 x31 x32 x33 x34 x35 x36 x37 x38 x39 x40 x41 x42 x43 x44 x45 x46 x47 x48 x49 x50 x51 x52 x53 x54 x55 x56 x57 x58 x59 x60 x61 x62 x63 x64 x65 x66 x67 x68 x69 x70 x71 x72 x73 x74 x75 x76 x77 x78 x79 x80 x81 x82 x83 x84 x85 x86 x87 x88 x89 x90 x91 x92 x93 x94 x95 x96 x97 x98 x99 x100 x101 x102 x103 x104 x105 x106 x107 x108 x109 x110 x111 x112 x113 x114 x115 x116 x117 x118 x119 x120 x121 x122 x123 x124 x125 x126 x127 x128 x129 x130 x131 x132 x133 x134 x135 x136 x137 x138 x139 x140 x141 x142 x143 x144 x145 x146 x147 x148 x149 x150 x151 x152 x153 x154 x155 x156 x157 x158 x159 x160 x161 x162 x163 x164 x165 x166 x167 x168 x169 x170 x171 x172 x173 x174 x175 x176 x177 x178 x179 x180 x181 x182 x183 x184 x185 x186 x187 x188 x189 x190 x191 x192 x193 x194 x195 x196 x197 x198 x199 x200 x201 x202 x203 x204 x205 x206 x207 x208 x209 x210 x211 x212 x213 x214 x215 x216 x217 x218 x219 x220 x221 x222 x223 x224 x225 x226 x227 x228 x229 x230 x231 x232 x233 x234 x235 x236 x237 x238 x239 x240 x241 x242 x243 x244 x245 x246 x247 x248 x249 x250 x251 x252 x253 x254 x255 x256 x257 x258 x259 x260 x261 x262 x263 x264 x265 x266 x267 x268 x269 x270 x271 x272 x273 x274 x275 x276 x277 x278 x279 x280 x281 x282 x283 x284 x285 x286 x287 x288 x289 x290 x291 x292 x293 x294 x295 x296 x297 x298 x299 x300 x301 x302 x303 x304 x305 x306 x307 x308 x309 x310 x311 x312 x313 x314 x315 x316 x317 x318 x319 x320 x321 x322 x323 x324 x325 x326 x327 x328 x329
  conv => arg 2; whnf
  have HR1 := Lib.hid hR1
  have HN := Lib.hid hN
  clear hR1 hN
  have hbz := FsOk.base hm.fs
  obtain ⟨hown, hfrs, ⟨pz, pf, pn⟩, hB⟩ := hm
  have HOWN := Lib.hid hown
  have HFRS := Lib.hid hfrs
  have HB := Lib.hid hB
  have HBLK := Lib.hid hblk
  clear hown hfrs hB hblk
  have pz_0 := cv0 pz
  have pz_1 := cv1 pz
  have pz_2 := cv2 pz
  have pz_3 := cv3 pz
  have pz_4 := cv4 pz
  have pz_5 := cv5 pz
  have pz_f0 := free_heap pz 0
  have pz_f1 := free_heap pz 1
  have pz_f2 := free_heap pz 2
  have pz_f3 := free_heap pz 3
  have pz_f4 := free_heap pz 4
  have pz_f5 := free_heap pz 5
  have pz_l := lt_heap pz
  have PZ := Lib.hid pz
  clear pz
  have pf_0 := cv0 pf
  have pf_1 := cv1 pf
  have pf_f0 := free_heap pf 0
  have pf_f1 := free_heap pf 1
  have pf_l := lt_heap pf
  have PF := Lib.hid pf
  clear pf
  have pn_0 := cv0 pn
  have pn_1 := cv1 pn
  have pn_2 := cv2 pn
  have pn_3 := cv3 pn
  have pn_4 := cv4 pn
  have pn_5 := cv5 pn
  have pn_l := lt_heap pn
  have PN := Lib.hid pn
  clear pn
  have pd := hd
  have PD := Lib.hid pd
  clear pd
  clear hd
  have ha1 : ((a : Int) + 1) = ((a + 1 : Nat) : Int) := by omega
  have HI1 := Lib.hid ha1
  have hrt := readType_any x hx4 (a + 1) (by omega) wo
  rw [runR_nil] at hrt
  clear ha1
  cases hrd : rd x 40 (a + 1) 0 with
  | bad c b2 =>
    rw [hrd] at hrt
    obtain ⟨hc0, hr⟩ := HR1.out c b2 hrd
    have hc1 : ((c : Int) != 0) = true := bne_iff_ne.2 (by omega)
    clear hrd hc0
    have HR := Lib.hid hr
    have HRT := Lib.hid hrt
    clear hr hrt
    go_wp2_with fail
    rw [HI1.out]
    refine HRT.out.mono ?_
    rintro e w4 ⟨rfl, hw4⟩
    have z4 : wo.heap.size ≤ w4.heap.size := hw4.size
    have pz' := (hw4.block _ pz_l).trans PZ.out
    have pf' := (hw4.block _ pf_l).trans PF.out
    have pn' := (hw4.block _ pn_l).trans PN.out
    have hB' := HB.out.trans (hw4.mono (by omega))
    have hpd' := (hw4.block D hD).trans PD.out
    have hown' := rowGrown HOWN.out (fun b hb _ => hw4.block b hb)
    have hfrs' := HFRS.out.keep (fun b h1 h2 h3 => hw4.block b (by omega)) (fun _ _ e => e) (Nat.le_refl _)
    have lz := lt_heap pz'
    have lf := lt_heap pf'
    have ln := lt_heap pn'
    have ld := lt_heap hpd'
    clear hw4
    clear pz_0 pz_1 pz_2 pz_3 pz_4 pz_5 pz_f0 pz_f1 pz_f2 pz_f3 pz_f4 pz_f5 pz_l pf_0 pf_1 pf_f0 pf_f1 pf_l pn_0 pn_1 pn_2 pn_3 pn_4 pn_5 pn_l
    have PZP := Lib.hid pz'
    have PFP := Lib.hid pf'
    have PNP := Lib.hid pn'
    have HBP := Lib.hid hB'
    have HPDP := Lib.hid hpd'
    have HOWNP := Lib.hid hown'
    have HFRSP := Lib.hid hfrs'
    clear pz' pf' pn' hB' hpd' hown' hfrs'
    go_upto_region 39 with (fail)
    refine gen_last (fun W => (W.heap[w.heap.size]? = some (.cells #[.int .i64 0, .string ⟨#[]⟩, .int .i64 0, .string ⟨#[]⟩, .slice none 0 0, .slice none 0 0] 27 (0, 0)) ∧ W.heap[w.heap.size + 1]? = some (.cells #[.int .i64 0, .int .i64 0] 29 (0, 0)) ∧ W.heap[w.heap.size + 2]? = some (.cells #[.int .i64 0, .string ⟨#[]⟩, .int .i64 0, .string ⟨#[]⟩, .slice none 0 0, .slice none 0 0] 27 (0, 0))) ∧ Below w.heap.size w W ∧ W.ownsRow (w.heap.size + 3) 55 7 (.slice Aq frs.length cq) frs.length (f7Cells frs) ∧ FsOk W (Value.slice Aq frs.length cq).ownBlock (w.heap.size + 3) frs D ∧ w4.heap.size + 2 ≤ W.heap.size ∧ W.heap[D]? = some (.cells #[.int .i64 0, .string ⟨#[]⟩, .int .i64 0, .string ⟨#[]⟩, .slice none 0 0, .slice none 0 0] 27 (0, 0)) ∧ W.heap[w4.heap.size]? = some (.cells #[.string ⟨#[]⟩, .slice none 0 0] 24 (0, 0)) ∧ W.heap[w4.heap.size + 1]? = some (.cells #[.int .i64 (c : Nat), .int .i64 (b2 : Nat)] 29 (0, 0))) ?_ ?_
    · exact ⟨⟨heap_old (by simp; omega) (heap_old lz PZP.out), heap_old (by simp; omega) (heap_old lf PFP.out), heap_old (by simp; omega) (heap_old ln PNP.out)⟩, (HBP.out.alloc (by omega) _).alloc (by simp; omega) _, (HOWNP.out.alloc _).alloc _, HFRSP.out.keep (fun b h1 h2 h3 => heap_old (by simp; omega) (heap_old (by omega) rfl)) (fun _ _ e => e) (Nat.le_refl _), by simp, heap_old (by simp; omega) (heap_old ld HPDP.out), heap_old (by simp) (heap_at rfl), heap_at (by simp)⟩
    rintro w5 ⟨⟨pz, pf, pn⟩, hB, hown, hfrs, z5, pd, ps, pe⟩
    clear lz lf ln ld
    have HB := Lib.hid hB
    have HOWN := Lib.hid hown
    have HFRS := Lib.hid hfrs
    clear hB hown hfrs
    have pz_0 := cv0 pz
    have pz_1 := cv1 pz
    have pz_2 := cv2 pz
    have pz_3 := cv3 pz
    have pz_4 := cv4 pz
    have pz_5 := cv5 pz
    have pz_f0 := free_heap pz 0
    have pz_f1 := free_heap pz 1
    have pz_f2 := free_heap pz 2
    have pz_f3 := free_heap pz 3
    have pz_f4 := free_heap pz 4
    have pz_f5 := free_heap pz 5
    have pz_l := lt_heap pz
    have PZ := Lib.hid pz
    clear pz
    have pf_0 := cv0 pf
    have pf_1 := cv1 pf
    have pf_f0 := free_heap pf 0
    have pf_f1 := free_heap pf 1
    have pf_l := lt_heap pf
    have PF := Lib.hid pf
    clear pf
    have pn_0 := cv0 pn
    have pn_1 := cv1 pn
    have pn_2 := cv2 pn
    have pn_3 := cv3 pn
    have pn_4 := cv4 pn
    have pn_5 := cv5 pn
    have pn_l := lt_heap pn
    have PN := Lib.hid pn
    clear pn
    have pe_0 := cv0 pe
    have pe_1 := cv1 pe
    have pe_l := lt_heap pe
    have PE := Lib.hid pe
    clear pe
    go_upto_region 40 with (fail)
    go_region
    all_goals go_wp2_with fail
    all_goals first
      | exact HR.out _ _ (id ⟨rfl, rfl, rfl, rfl, trivial⟩) (heap_drew (far2 (by omega) (at6 PZ.out))) (heap_drew (at2 (far6 (by omega) PF.out))) (below2 (below6 HB.out (Nat.le_refl _)) (by omega)).drew
      | exact HR.out _ _ (id ⟨rfl, rfl, rfl, rfl, trivial⟩) (far2 (by omega) (at6 PZ.out)) (at2 (far6 (by omega) PF.out)) (below2 (below6 HB.out.drew (Nat.le_refl _)) (by omega))
      | exact HR.out _ _ (id ⟨rfl, rfl, rfl, rfl, trivial⟩) (at6 (far2 (by omega) PZ.out)) (far6 (by omega) (at2 PF.out)) (below6 (below2 HB.out.drew (by omega)) (Nat.le_refl _))
      | fail
  | ok sy b2 m =>
    rw [hrd] at hrt
    have hb2x := (rd_ok x 40 (a + 1) 0 sy b2 m hrd).1
    have hb2a := (rd_ok x 40 (a + 1) 0 sy b2 m hrd).2.1
    have hfo := HN.out sy b2 m hrd
    have hsz := ext_le2 x i a hx4
    clear hrd
    have HFO := Lib.hid hfo
    have HRT := Lib.hid hrt
    have HSZ := Lib.hid hsz
    clear hfo hrt hsz
    go_wp2_with fail
    rw [HI1.out]
    refine HRT.out.mono ?_
    rintro e w4 ⟨v0, v1, rfl, hsy, hw4⟩
    obtain ⟨sv, Av, nv, cv, rfl, rfl⟩ := hsy.shape
    have z4 : wo.heap.size ≤ w4.heap.size := hw4.size
    have pz' := (hw4.block _ pz_l).trans PZ.out
    have pf' := (hw4.block _ pf_l).trans PF.out
    have pn' := (hw4.block _ pn_l).trans PN.out
    have hB' := HB.out.trans (hw4.mono (by omega))
    have hpd' := (hw4.block D hD).trans PD.out
    have hown' := rowGrown HOWN.out (fun b hb _ => hw4.block b hb)
    have hfrs' := HFRS.out.keep (fun b h1 h2 h3 => hw4.block b (by omega)) (fun _ _ e => e) (Nat.le_refl _)
    have lz := lt_heap pz'
    have lf := lt_heap pf'
    have ln := lt_heap pn'
    have ld := lt_heap hpd'
    clear hw4
    clear pz_0 pz_1 pz_2 pz_3 pz_4 pz_5 pz_f0 pz_f1 pz_f2 pz_f3 pz_f4 pz_f5 pz_l pf_0 pf_1 pf_f0 pf_f1 pf_l pn_0 pn_1 pn_2 pn_3 pn_4 pn_5 pn_l
    have PZP := Lib.hid pz'
    have PFP := Lib.hid pf'
    have PNP := Lib.hid pn'
    have HBP := Lib.hid hB'
    have HPDP := Lib.hid hpd'
    have HOWNP := Lib.hid hown'
    have HFRSP := Lib.hid hfrs'
    clear pz' pf' pn' hB' hpd' hown' hfrs'
    have HSY := Lib.hid hsy
    clear hsy
    go_upto_region 39 with (fail)
    refine gen_last (fun W => (W.heap[w.heap.size]? = some (.cells #[.int .i64 0, .string ⟨#[]⟩, .int .i64 0, .string ⟨#[]⟩, .slice none 0 0, .slice none 0 0] 27 (0, 0)) ∧ W.heap[w.heap.size + 1]? = some (.cells #[.int .i64 0, .int .i64 0] 29 (0, 0)) ∧ W.heap[w.heap.size + 2]? = some (.cells #[.int .i64 0, .string ⟨#[]⟩, .int .i64 0, .string ⟨#[]⟩, .slice none 0 0, .slice none 0 0] 27 (0, 0))) ∧ Below w.heap.size w W ∧ W.ownsRow (w.heap.size + 3) 55 7 (.slice Aq frs.length cq) frs.length (f7Cells frs) ∧ FsOk W (Value.slice Aq frs.length cq).ownBlock (w.heap.size + 3) frs D ∧ w4.heap.size + 2 ≤ W.heap.size ∧ W.heap[D]? = some (.cells #[.int .i64 0, .string ⟨#[]⟩, .int .i64 0, .string ⟨#[]⟩, .slice none 0 0, .slice none 0 0] 27 (0, 0)) ∧ W.heap[w4.heap.size]? = some (.cells #[.string sv, .slice Av nv cv] 24 (0, 0)) ∧ W.heap[w4.heap.size + 1]? = some (.cells #[.int .i64 0, .int .i64 0] 29 (0, 0)) ∧ sy.ty.In W (fun b => wo.heap.size ≤ b ∧ b < w4.heap.size) (.string sv) (.slice Av nv cv)) ?_ ?_
    · exact ⟨⟨heap_old (by simp; omega) (heap_old lz PZP.out), heap_old (by simp; omega) (heap_old lf PFP.out), heap_old (by simp; omega) (heap_old ln PNP.out)⟩, (HBP.out.alloc (by omega) _).alloc (by simp; omega) _, (HOWNP.out.alloc _).alloc _, HFRSP.out.keep (fun b h1 h2 h3 => heap_old (by simp; omega) (heap_old (by omega) rfl)) (fun _ _ e => e) (Nat.le_refl _), by simp, heap_old (by simp; omega) (heap_old ld HPDP.out), heap_old (by simp) (heap_at rfl), heap_at (by simp), (HSY.out.keep (fun b hb => heap_old (by have := hb.2; simp; omega) (heap_old hb.2 rfl))).mono (fun b hb => hb)⟩
    rintro w5 ⟨⟨pz, pf, pn⟩, hB, hown, hfrs, z5, pd, ps, pe, hsy⟩
    clear lz lf ln ld
    have HB := Lib.hid hB
    have HOWN := Lib.hid hown
    have HFRS := Lib.hid hfrs
    have HSY := Lib.hid hsy
    clear hB hown hfrs hsy
    have pz_0 := cv0 pz
    have pz_1 := cv1 pz
    have pz_2 := cv2 pz
    have pz_3 := cv3 pz
    have pz_4 := cv4 pz
    have pz_5 := cv5 pz
    have pz_f0 := free_heap pz 0
    have pz_f1 := free_heap pz 1
    have pz_f2 := free_heap pz 2
    have pz_f3 := free_heap pz 3
    have pz_f4 := free_heap pz 4
    have pz_f5 := free_heap pz 5
    have pz_l := lt_heap pz
    have PZ := Lib.hid pz
    clear pz
    have pf_0 := cv0 pf
    have pf_1 := cv1 pf
    have pf_f0 := free_heap pf 0
    have pf_f1 := free_heap pf 1
    have pf_l := lt_heap pf
    have PF := Lib.hid pf
    clear pf
    have pn_0 := cv0 pn
    have pn_1 := cv1 pn
    have pn_2 := cv2 pn
    have pn_3 := cv3 pn
    have pn_4 := cv4 pn
    have pn_5 := cv5 pn
    have pn_l := lt_heap pn
    have PN := Lib.hid pn
    clear pn
    have pe_0 := cv0 pe
    have pe_1 := cv1 pe
    have pe_l := lt_heap pe
    have PE := Lib.hid pe
    clear pe
    have ps_0 := cv0 ps
    have ps_1 := cv1 ps
    have ps_l := lt_heap ps
    have PS := Lib.hid ps
    clear ps
    have pd_0 := cv0 pd
    have pd_1 := cv1 pd
    have pd_2 := cv2 pd
    have pd_3 := cv3 pd
    have pd_4 := cv4 pd
    have pd_5 := cv5 pd
    have pd_f0 := free_heap pd 0
    have pd_f1 := free_heap pd 1
    have pd_f2 := free_heap pd 2
    have pd_f3 := free_heap pd 3
    have pd_f4 := free_heap pd 4
    have pd_f5 := free_heap pd 5
    have pd_l := lt_heap pd
    have PD := Lib.hid pd
    clear pd
    have u1 : (a : Int) ≤ (x.size : Int) := by omega
    have u2 : (i : Int) ≤ (a : Int) := by omega
    have u3 : (0 : Int) ≤ (i : Int) := by omega
    go_upto_region 41 with (fail)
    go_region
    all_goals go_wp2_with fail
    all_goals
      have hnD : (Value.slice Aq frs.length cq).ownBlock ≠ some D := fun e => by have := (HBLK.out D e).2; omega
      refine gen_last (fun wx => LeafAt w wo wx frs Aq cq D (.con (x.extract i a) sy) [.int .i64 1, .string (x.extract i a), .int .i64 0, .string sv, .slice Av nv cv, .slice none 0 0]) ?_ (fun wx h9 => HFO.out _ _ _ (id ⟨rfl, rfl, rfl, rfl, rfl, rfl, rfl, rfl, rfl, rfl, trivial⟩) h9)
      first
      | refine LeafAt.drew ?_
        exact ⟨⟨oth6 (i := 0) hnD HOWN.out, HFRS.out.keep (fun b h1 h2 h3 => far6 (by omega) rfl) (fun _ _ e => e) (Nat.le_refl _), ⟨far6 (by omega) PZ.out, far6 (by omega) PF.out, far6 (by omega) PN.out⟩, below6 HB.out (by omega)⟩, at6 PD.out, Tm.shut (a := ⟨1, x.extract i a, 0, sy.ty⟩) (l := []) HSZ.out ((HSY.out.keep (fun b hb => far6 (by omega) rfl)).mono (fun b hb => ⟨hb.1, lt6 (show b < w5.heap.size by omega)⟩)) Rep.Sl.nil, le6 (show wo.heap.size ≤ w5.heap.size by omega)⟩
      | fail
noncomputable def c_tr_con : Code := sub [1, 1, 1, 1, 1, 0, 0, 0, 1, 1, 1, 1, 1, 1, 0, 1, 1] (Tryd.f9.body.getD .skip)
theorem tr_con_wp {Q : Exit → Act → World → Prop} {x : ByteArray} {w : World} {frs : List F7} {Aq : Option Addr} {cq i n : Nat} {wo : World} {D : Nat} (hx4 : x.size ≤ 4000) (hi : i < x.size) (hm : TMem w wo frs Aq cq (D)) (hD : D < wo.heap.size) (hblk : ∀ b, (Value.slice Aq frs.length cq).ownBlock = some b → w.heap.size + 3 ≤ b ∧ b < D) (hd : wo.heap[D]? = some (.cells #[.int .i64 0, .string ⟨#[]⟩, .int .i64 0, .string ⟨#[]⟩, .slice none 0 0, .slice none 0 0] 27 (0, 0))) (hR : byteAt x (nameE x i) ≠ 58 → ∀ a' w', Frm 330 [(2, .pointer (some ⟨w.heap.size, 0, none⟩)), (3, .pointer (some ⟨w.heap.size + 1, 0, none⟩))] a' → w'.heap[w.heap.size]? = some (.cells #[.int .i64 0, .string ⟨#[]⟩, .int .i64 0, .string ⟨#[]⟩, .slice none 0 0, .slice none 0 0] 27 (0, 0)) → w'.heap[w.heap.size + 1]? = some (.cells #[.int .i64 11, .int .i64 (nameE x i : Nat)] 29 (0, 0)) → Below w.heap.size w w' → Q .ret a' w') (hR1 : byteAt x (nameE x i) = 58 → ∀ c b, rd x 40 (nameE x i + 1) 0 = .bad c b → c ≠ 0 ∧ ∀ a' w', Frm 330 [(2, .pointer (some ⟨w.heap.size, 0, none⟩)), (3, .pointer (some ⟨w.heap.size + 1, 0, none⟩))] a' → w'.heap[w.heap.size]? = some (.cells #[.int .i64 0, .string ⟨#[]⟩, .int .i64 0, .string ⟨#[]⟩, .slice none 0 0, .slice none 0 0] 27 (0, 0)) → w'.heap[w.heap.size + 1]? = some (.cells #[.int .i64 (c : Nat), .int .i64 (b : Nat)] 29 (0, 0)) → Below w.heap.size w w' → Q .ret a' w') (hN : byteAt x (nameE x i) = 58 → ∀ s b m, rd x 40 (nameE x i + 1) 0 = .ok s b m → ∀ dc a' wx, Frm 330 [(0, .string x), (2, .pointer (some ⟨w.heap.size, 0, none⟩)), (3, .pointer (some ⟨w.heap.size + 1, 0, none⟩)), (4, .slice Aq frs.length cq), (5, .int .i64 (b : Nat)), (6, .int .i64 (n : Nat)), (7, .pointer (some ⟨w.heap.size + 2, 0, none⟩)), (8, .pointer (some ⟨D, 0, none⟩))] a' → LeafAt w wo wx frs Aq cq D (.con (x.extract i (nameE x i)) s) dc → Q .normal a' wx) : ∀ ac, Frm 330 [(0, .string x), (2, .pointer (some ⟨w.heap.size, 0, none⟩)), (3, .pointer (some ⟨w.heap.size + 1, 0, none⟩)), (4, .slice Aq frs.length cq), (5, .int .i64 (i : Nat)), (6, .int .i64 (n : Nat)), (7, .pointer (some ⟨w.heap.size + 2, 0, none⟩)), (8, .pointer (some ⟨D, 0, none⟩))] ac → Code.wp Tryd.prog c_tr_con Q ac wo := by
  intro a0 hf0
  conv => arg 2; whnf
  refine wp_seq ?_
  refine tr_con0_wp (fun a1 hf1 => ?_) a0 hf0
  refine wp_seq ?_
  refine wp_block ?_
  refine tr_conl_wp hx4 (by omega) (fun hax hia a2 hf2 => ?_) a1 hf1
  refine wp_seq ?_
  refine tr_conc_wp (Q := Exit.then _ _) hx4 hm hblk hR (fun e a3 hf3 => ?_) a2 hf2
  exact tr_cont_wp hx4 (byteAt_lt (by omega)) hia hm hD hblk hd (hR1 e) (fun s b m h dc a4 w4 h1 h2 => hN e s b m h dc a4 w4 h1 h2) a3 hf3
end

end Go.Proofs.YtnoceodmnjhljaaDoor
