/-
  The law TermReadMatchesSpec: the walk.
-/
import Derived.Test.YtnoceodmnjhljaaDoorPkTrH
import Derived.Test.YtnoceodmnjhljaaDoorTmStack
import Derived.Deep.DeepCutAuto
import Derived.Deep.RegionLaw
import Derived.BigQuiet
import Derived.Test.YtnoceodmnjhljaaDoorPkTrB
import Derived.Test.YtnoceodmnjhljaaDoorProg
import Derived.Test.YtnoceodmnjhljaaDoorTerm
import Derived.Test.YtnoceodmnjhljaaDoorSets
import Derived.Test.YtnoceodmnjhljaaDoorCloneTm
import Derived.Test.YtnoceodmnjhljaaDoorTyped
import Derived.Test.YtnoceodmnjhljaaDoorBase
import Derived.Test.YtnoceodmnjhljaaDoorPkTParse
import Derived.Deep.RegionHeld3
namespace Go.Proofs.YtnoceodmnjhljaaDoor

section
open Go Go.RowKit
set_option linter.unusedSimpArgs false
set_option linter.unusedVariables false

noncomputable def c_tr_nil : Code := sub [1, 1, 1, 1, 1, 0, 0, 0, 1, 1, 1, 1, 1, 1, 1, 0, 0, 0, 0] (Tryd.f9.body.getD .skip)
set_option maxRecDepth 1000000 in
theorem open_tr_nil {P : Act → Prop} {v0 v1 v2 v3 v4 v5 v6 v7 : Value} (h : ∀ x1 x9 x10 x11 x12 x13 x14 x15 x16 x17 x18 x19 x20 x21 x22 x23 x24 x25 x26 x27 x28 x29 x30 x31 x32 x33 x34 x35 x36 x37 x38 x39 x40 x41 x42 x43 x44 x45 x46 x47 x48 x49 x50 x51 x52 x53 x54 x55 x56 x57 x58 x59 x60 x61 x62 x63 x64 x65 x66 x67 x68 x69 x70 x71 x72 x73 x74 x75 x76 x77 x78 x79 x80 x81 x82 x83 x84 x85 x86 x87 x88 x89 x90 x91 x92 x93 x94 x95 x96 x97 x98 x99 x100 x101 x102 x103 x104 x105 x106 x107 x108 x109 x110 x111 x112 x113 x114 x115 x116 x117 x118 x119 x120 x121 x122 x123 x124 x125 x126 x127 x128 x129 x130 x131 x132 x133 x134 x135 x136 x137 x138 x139 x140 x141 x142 x143 x144 x145 x146 x147 x148 x149 x150 x151 x152 x153 x154 x155 x156 x157 x158 x159 x160 x161 x162 x163 x164 x165 x166 x167 x168 x169 x170 x171 x172 x173 x174 x175 x176 x177 x178 x179 x180 x181 x182 x183 x184 x185 x186 x187 x188 x189 x190 x191 x192 x193 x194 x195 x196 x197 x198 x199 x200 x201 x202 x203 x204 x205 x206 x207 x208 x209 x210 x211 x212 x213 x214 x215 x216 x217 x218 x219 x220 x221 x222 x223 x224 x225 x226 x227 x228 x229 x230 x231 x232 x233 x234 x235 x236 x237 x238 x239 x240 x241 x242 x243 x244 x245 x246 x247 x248 x249 x250 x251 x252 x253 x254 x255 x256 x257 x258 x259 x260 x261 x262 x263 x264 x265 x266 x267 x268 x269 x270 x271 x272 x273 x274 x275 x276 x277 x278 x279 x280 x281 x282 x283 x284 x285 x286 x287 x288 x289 x290 x291 x292 x293 x294 x295 x296 x297 x298 x299 x300 x301 x302 x303 x304 x305 x306 x307 x308 x309 x310 x311 x312 x313 x314 x315 x316 x317 x318 x319 x320 x321 x322 x323 x324 x325 x326 x327 x328 x329 : Value, P ⟨(v0 :: x1 :: v1 :: v2 :: v3 :: v4 :: v5 :: v6 :: v7 :: x9 :: x10 :: x11 :: x12 :: x13 :: x14 :: x15 :: x16 :: x17 :: x18 :: x19 :: x20 :: x21 :: x22 :: x23 :: x24 :: x25 :: x26 :: x27 :: x28 :: x29 :: x30 :: x31 :: x32 :: x33 :: x34 :: x35 :: x36 :: x37 :: x38 :: x39 :: x40 :: x41 :: x42 :: x43 :: x44 :: x45 :: x46 :: x47 :: x48 :: x49 :: x50 :: x51 :: x52 :: x53 :: x54 :: x55 :: x56 :: x57 :: x58 :: x59 :: x60 :: x61 :: x62 :: x63 :: x64 :: x65 :: x66 :: x67 :: x68 :: x69 :: x70 :: x71 :: x72 :: x73 :: x74 :: x75 :: x76 :: x77 :: x78 :: x79 :: x80 :: x81 :: x82 :: x83 :: x84 :: x85 :: x86 :: x87 :: x88 :: x89 :: x90 :: x91 :: x92 :: x93 :: x94 :: x95 :: x96 :: x97 :: x98 :: x99 :: x100 :: x101 :: x102 :: x103 :: x104 :: x105 :: x106 :: x107 :: x108 :: x109 :: x110 :: x111 :: x112 :: x113 :: x114 :: x115 :: x116 :: x117 :: x118 :: x119 :: x120 :: x121 :: x122 :: x123 :: x124 :: x125 :: x126 :: x127 :: x128 :: x129 :: x130 :: x131 :: x132 :: x133 :: x134 :: x135 :: x136 :: x137 :: x138 :: x139 :: x140 :: x141 :: x142 :: x143 :: x144 :: x145 :: x146 :: x147 :: x148 :: x149 :: x150 :: x151 :: x152 :: x153 :: x154 :: x155 :: x156 :: x157 :: x158 :: x159 :: x160 :: x161 :: x162 :: x163 :: x164 :: x165 :: x166 :: x167 :: x168 :: x169 :: x170 :: x171 :: x172 :: x173 :: x174 :: x175 :: x176 :: x177 :: x178 :: x179 :: x180 :: x181 :: x182 :: x183 :: x184 :: x185 :: x186 :: x187 :: x188 :: x189 :: x190 :: x191 :: x192 :: x193 :: x194 :: x195 :: x196 :: x197 :: x198 :: x199 :: x200 :: x201 :: x202 :: x203 :: x204 :: x205 :: x206 :: x207 :: x208 :: x209 :: x210 :: x211 :: x212 :: x213 :: x214 :: x215 :: x216 :: x217 :: x218 :: x219 :: x220 :: x221 :: x222 :: x223 :: x224 :: x225 :: x226 :: x227 :: x228 :: x229 :: x230 :: x231 :: x232 :: x233 :: x234 :: x235 :: x236 :: x237 :: x238 :: x239 :: x240 :: x241 :: x242 :: x243 :: x244 :: x245 :: x246 :: x247 :: x248 :: x249 :: x250 :: x251 :: x252 :: x253 :: x254 :: x255 :: x256 :: x257 :: x258 :: x259 :: x260 :: x261 :: x262 :: x263 :: x264 :: x265 :: x266 :: x267 :: x268 :: x269 :: x270 :: x271 :: x272 :: x273 :: x274 :: x275 :: x276 :: x277 :: x278 :: x279 :: x280 :: x281 :: x282 :: x283 :: x284 :: x285 :: x286 :: x287 :: x288 :: x289 :: x290 :: x291 :: x292 :: x293 :: x294 :: x295 :: x296 :: x297 :: x298 :: x299 :: x300 :: x301 :: x302 :: x303 :: x304 :: x305 :: x306 :: x307 :: x308 :: x309 :: x310 :: x311 :: x312 :: x313 :: x314 :: x315 :: x316 :: x317 :: x318 :: x319 :: x320 :: x321 :: x322 :: x323 :: x324 :: x325 :: x326 :: x327 :: x328 :: x329 :: []).toArray, []⟩) : ∀ a, Frm 330 [(0, v0), (2, v1), (3, v2), (4, v3), (5, v4), (6, v5), (7, v6), (8, v7)] a → P a := by
  rintro a ⟨h1, h2, e0, e1, e2, e3, e4, e5, e6, e7, _⟩
  revert e0 e1 e2 e3 e4 e5 e6 e7
  refine frame_tr (P := fun a => a.tmps.toList[0]? = some v0 → a.tmps.toList[2]? = some v1 → a.tmps.toList[3]? = some v2 → a.tmps.toList[4]? = some v3 → a.tmps.toList[5]? = some v4 → a.tmps.toList[6]? = some v5 → a.tmps.toList[7]? = some v6 → a.tmps.toList[8]? = some v7 → P a) ?_ a h1 h2
  intro x0 x1 x2 x3 x4 x5 x6 x7 x8 x9 x10 x11 x12 x13 x14 x15 x16 x17 x18 x19 x20 x21 x22 x23 x24 x25 x26 x27 x28 x29 x30 x31 x32 x33 x34 x35 x36 x37 x38 x39 x40 x41 x42 x43 x44 x45 x46 x47 x48 x49 x50 x51 x52 x53 x54 x55 x56 x57 x58 x59 x60 x61 x62 x63 x64 x65 x66 x67 x68 x69 x70 x71 x72 x73 x74 x75 x76 x77 x78 x79 x80 x81 x82 x83 x84 x85 x86 x87 x88 x89 x90 x91 x92 x93 x94 x95 x96 x97 x98 x99 x100 x101 x102 x103 x104 x105 x106 x107 x108 x109 x110 x111 x112 x113 x114 x115 x116 x117 x118 x119 x120 x121 x122 x123 x124 x125 x126 x127 x128 x129 x130 x131 x132 x133 x134 x135 x136 x137 x138 x139 x140 x141 x142 x143 x144 x145 x146 x147 x148 x149 x150 x151 x152 x153 x154 x155 x156 x157 x158 x159 x160 x161 x162 x163 x164 x165 x166 x167 x168 x169 x170 x171 x172 x173 x174 x175 x176 x177 x178 x179 x180 x181 x182 x183 x184 x185 x186 x187 x188 x189 x190 x191 x192 x193 x194 x195 x196 x197 x198 x199 x200 x201 x202 x203 x204 x205 x206 x207 x208 x209 x210 x211 x212 x213 x214 x215 x216 x217 x218 x219 x220 x221 x222 x223 x224 x225 x226 x227 x228 x229 x230 x231 x232 x233 x234 x235 x236 x237 x238 x239 x240 x241 x242 x243 x244 x245 x246 x247 x248 x249 x250 x251 x252 x253 x254 x255 x256 x257 x258 x259 x260 x261 x262 x263 x264 x265 x266 x267 x268 x269 x270 x271 x272 x273 x274 x275 x276 x277 x278 x279 x280 x281 x282 x283 x284 x285 x286 x287 x288 x289 x290 x291 x292 x293 x294 x295 x296 x297 x298 x299 x300 x301 x302 x303 x304 x305 x306 x307 x308 x309 x310 x311 x312 x313 x314 x315 x316 x317 x318 x319 x320 x321 x322 x323 x324 x325 x326 x327 x328 x329 e0 e1 e2 e3 e4 e5 e6 e7
  obtain rfl : x0 = v0 := Option.some.inj e0
  obtain rfl : x2 = v1 := Option.some.inj e1
  obtain rfl : x3 = v2 := Option.some.inj e2
  obtain rfl : x4 = v3 := Option.some.inj e3
  obtain rfl : x5 = v4 := Option.some.inj e4
  obtain rfl : x6 = v5 := Option.some.inj e5
  obtain rfl : x7 = v6 := Option.some.inj e6
  obtain rfl : x8 = v7 := Option.some.inj e7
  exact h x1 x9 x10 x11 x12 x13 x14 x15 x16 x17 x18 x19 x20 x21 x22 x23 x24 x25 x26 x27 x28 x29 x30 x31 x32 x33 x34 x35 x36 x37 x38 x39 x40 x41 x42 x43 x44 x45 x46 x47 x48 x49 x50 x51 x52 x53 x54 x55 x56 x57 x58 x59 x60 x61 x62 x63 x64 x65 x66 x67 x68 x69 x70 x71 x72 x73 x74 x75 x76 x77 x78 x79 x80 x81 x82 x83 x84 x85 x86 x87 x88 x89 x90 x91 x92 x93 x94 x95 x96 x97 x98 x99 x100 x101 x102 x103 x104 x105 x106 x107 x108 x109 x110 x111 x112 x113 x114 x115 x116 x117 x118 x119 x120 x121 x122 x123 x124 x125 x126 x127 x128 x129 x130 x131 x132 x133 x134 x135 x136 x137 x138 x139 x140 x141 x142 x143 x144 x145 x146 x147 x148 x149 x150 x151 x152 x153 x154 x155 x156 x157 x158 x159 x160 x161 x162 x163 x164 x165 x166 x167 x168 x169 x170 x171 x172 x173 x174 x175 x176 x177 x178 x179 x180 x181 x182 x183 x184 x185 x186 x187 x188 x189 x190 x191 x192 x193 x194 x195 x196 x197 x198 x199 x200 x201 x202 x203 x204 x205 x206 x207 x208 x209 x210 x211 x212 x213 x214 x215 x216 x217 x218 x219 x220 x221 x222 x223 x224 x225 x226 x227 x228 x229 x230 x231 x232 x233 x234 x235 x236 x237 x238 x239 x240 x241 x242 x243 x244 x245 x246 x247 x248 x249 x250 x251 x252 x253 x254 x255 x256 x257 x258 x259 x260 x261 x262 x263 x264 x265 x266 x267 x268 x269 x270 x271 x272 x273 x274 x275 x276 x277 x278 x279 x280 x281 x282 x283 x284 x285 x286 x287 x288 x289 x290 x291 x292 x293 x294 x295 x296 x297 x298 x299 x300 x301 x302 x303 x304 x305 x306 x307 x308 x309 x310 x311 x312 x313 x314 x315 x316 x317 x318 x319 x320 x321 x322 x323 x324 x325 x326 x327 x328 x329
set_option maxRecDepth 1000000 in
set_option maxHeartbeats 16000000 in
theorem tr_nil_wp {Q : Exit → Act → World → Prop} {x : ByteArray} {w wr : World} {i n : Nat} {D hi : Nat} {v : Tv} {dc : List Value} {Aq : Option Addr} {cq : Nat} (hx4 : x.size ≤ 4000) (hp : PopAt w wr [] Aq cq D hi v dc) (hM : i < x.size → ∀ a' w', Frm 330 [(2, .pointer (some ⟨w.heap.size, 0, none⟩)), (3, .pointer (some ⟨w.heap.size + 1, 0, none⟩))] a' → w'.heap[w.heap.size]? = some (.cells #[.int .i64 0, .string ⟨#[]⟩, .int .i64 0, .string ⟨#[]⟩, .slice none 0 0, .slice none 0 0] 27 (0, 0)) → w'.heap[w.heap.size + 1]? = some (.cells #[.int .i64 11, .int .i64 (i : Nat)] 29 (0, 0)) → Below w.heap.size w w' → Q .ret a' w') (hF : ¬ i < x.size → (tmFault v.tm).1 ≠ 0 → ∀ a' w', Frm 330 [(2, .pointer (some ⟨w.heap.size, 0, none⟩)), (3, .pointer (some ⟨w.heap.size + 1, 0, none⟩))] a' → w'.heap[w.heap.size]? = some (.cells #[.int .i64 0, .string ⟨#[]⟩, .int .i64 0, .string ⟨#[]⟩, .slice none 0 0, .slice none 0 0] 27 (0, 0)) → w'.heap[w.heap.size + 1]? = some (.cells #[.int .i64 ((tmFault v.tm).1 : Nat), .int .i64 (tmFault v.tm).2] 29 (0, 0)) → Below w.heap.size w w' → Q .ret a' w') (hG : ¬ i < x.size → (tmFault v.tm).1 = 0 → ∀ (es : List Value) a' w', Frm 330 [(2, .pointer (some ⟨w.heap.size, 0, none⟩)), (3, .pointer (some ⟨w.heap.size + 1, 0, none⟩))] a' → w'.heap[w.heap.size]? = some (.cells es.toArray 27 (0, 0)) → w'.heap[w.heap.size + 1]? = some (.cells #[.int .i64 0, .int .i64 0] 29 (0, 0)) → Below w.heap.size w w' → tmRep.R w' (Fresh w w') v.tm es → Q .ret a' w') : ∀ ac, Frm 330 [(0, .string x), (2, .pointer (some ⟨w.heap.size, 0, none⟩)), (3, .pointer (some ⟨w.heap.size + 1, 0, none⟩)), (4, .slice Aq 0 cq), (5, .int .i64 (i : Nat)), (6, .int .i64 (n : Nat)), (7, .pointer (some ⟨w.heap.size + 2, 0, none⟩)), (8, .pointer (some ⟨D, 0, none⟩))] ac → Code.wp Tryd.prog c_tr_nil Q ac wr := by
  refine open_tr_nil (P := fun a => Code.wp Tryd.prog c_tr_nil Q a wr) ?_
  intro x1 x9 x10 x11 x12 x13 x14 x15 x16 x17 x18 x19 x20 x21 x22 x23 x24 x25 x26 x27 x28 x29 x30 x31 x32 x33 x34 x35 x36 x37 x38 x39 x40 x41 x42 x43 x44 x45 x46 x47 x48 x49 x50 x51 x52 x53 x54 x55 x56 x57 x58 x59 x60 x61 x62 x63 x64 x65 x66 x67 x68 x69 x70 x71 x72 x73 x74 x75 x76 x77 x78 x79 x80 x81 x82 x83 x84 x85 x86 x87 x88 x89 x90 x91 x92 x93 x94 x95 x96 x97 x98 x99 x100 x101 x102 x103 x104 x105 x106 x107 x108 x109 x110 x111 x112 x113 x114 x115 x116 x117 x118 x119 x120 x121 x122 x123 x124 x125 x126 x127 x128 x129 x130 x131 x132 x133 x134 x135 x136 x137 x138 x139 x140 x141 x142 x143 x144 x145 x146 x147 x148 x149 x150 x151 x152 x153 x154 x155 x156 x157 x158 x159 x160 x161 x162 x163 x164 x165 x166 x167 x168 x169 x170 x171 x172 x173 x174 x175 x176 x177 x178 x179 x180 x181 x182 x183 x184 x185 x186 x187 x188 x189 x190 x191 x192 x193 x194 x195 x196 x197 x198 x199 x200 x201 x202 x203 x204 x205 x206 x207 x208 x209 x210 x211 x212 x213 x214 x215 x216 x217 x218 x219 x220 x221 x222 x223 x224 x225 x226 x227 x228 x229 x230 x231 x232 x233 x234 x235 x236 x237 x238 x239 x240 x241 x242 x243 x244 x245 x246 x247 x248 x249 x250 x251 x252 x253 x254 x255 x256 x257 x258 x259 x260 x261 x262 x263 x264 x265 x266 x267 x268 x269 x270 x271 x272 x273 x274 x275 x276 x277 x278 x279 x280 x281 x282 x283 x284 x285 x286 x287 x288 x289 x290 x291 x292 x293 x294 x295 x296 x297 x298 x299 x300 x301 x302 x303 x304 x305 x306 x307 x308 x309 x310 x311 x312 x313 x314 x315 x316 x317 x318 x319 x320 x321 x322 x323 x324 x325 x326 x327 x328 x329
  conv => arg 2; whnf
  have HM := Lib.hid hM
  have HF := Lib.hid hF
  have HG := Lib.hid hG
  clear hM hF hG
  obtain ⟨s1, A1, n1, c1, B1, m1, d1, rfl, _, _⟩ := Tm.shape hp.r
  have hin := hp.r
  have hD := hp.dl
  have hbz := FsOk.base hp.m.fs
  have hhi := hp.hle
  obtain ⟨hown, hfrs, ⟨pz, pf, pn⟩, hB⟩ := hp.m
  have pd := hp.d
  have hqo := hp.q
  clear hp
  have HOWN := Lib.hid hown
  have HFRS := Lib.hid hfrs
  have HB := Lib.hid hB
  have HIN := Lib.hid hin
  have HQO := Lib.hid hqo
  clear hown hfrs hB hin hqo
  have pz_0 := cv0 pz
  have pz_1 := cv1 pz
  have pz_2 := cv2 pz
  have pz_3 := cv3 pz
  have pz_4 := cv4 pz
  have pz_5 := cv5 pz
  have pz_f0 := free_heap pz 0
  have pz_f1 := free_heap pz 1
  have pz_f2 := free_heap pz 2
  have pz_f3 := free_heap pz 3
  have pz_f4 := free_heap pz 4
  have pz_f5 := free_heap pz 5
  have pz_l := lt_heap pz
  have PZ := Lib.hid pz
  clear pz
  have pf_0 := cv0 pf
  have pf_1 := cv1 pf
  have pf_f0 := free_heap pf 0
  have pf_f1 := free_heap pf 1
  have pf_l := lt_heap pf
  have PF := Lib.hid pf
  clear pf
  have pn_0 := cv0 pn
  have pn_1 := cv1 pn
  have pn_2 := cv2 pn
  have pn_3 := cv3 pn
  have pn_4 := cv4 pn
  have pn_5 := cv5 pn
  have pn_l := lt_heap pn
  have PN := Lib.hid pn
  clear pn
  have pd_0 := cv0 pd
  have pd_1 := cv1 pd
  have pd_2 := cv2 pd
  have pd_3 := cv3 pd
  have pd_4 := cv4 pd
  have pd_5 := cv5 pd
  have pd_f0 := free_heap pd 0
  have pd_f1 := free_heap pd 1
  have pd_f2 := free_heap pd 2
  have pd_f3 := free_heap pd 3
  have pd_f4 := free_heap pd 4
  have pd_f5 := free_heap pd 5
  have pd_l := lt_heap pd
  have PD := Lib.hid pd
  clear pd
  have hnil : (((List.length ([] : List F7) : Nat) : Int) == 0) = true := rfl
  simp only [List.length_nil, Int.natCast_zero] at hnil
  by_cases hlt : i < x.size
  · have q1 : (i : Int) < (x.size : Int) := by omega
    have HR := Lib.hid (HM.out hlt)
    go_wp2_with fail
    exact HR.out _ _ (id ⟨rfl, rfl, rfl, rfl, trivial⟩) (far2 (by omega) (at6 PZ.out)) (at2 (far6 (by omega) PF.out)) (below2 (below6 HB.out (Nat.le_refl _)) (by omega))
  have q1 : ¬ (i : Int) < (x.size : Int) := by omega
  have htf := refTmFault_any v.tm [.int .i64 v.tm.lab.kind, .string v.tm.lab.nm, .int .i64 v.tm.lab.ix, .string s1, .slice A1 n1 c1, .slice B1 m1 d1] wr (fun b => hi ≤ b ∧ b < wr.heap.size ∧ (Value.slice Aq ([] : List F7).length cq).ownBlock ≠ some b ∧ b ≠ D) HIN.out (fun b hb => hb.2.1)
  have h1 := HF.out hlt
  have h2 := HG.out hlt
  obtain ⟨⟨fc, fi⟩, hfp⟩ : ∃ p, tmFault v.tm = p := ⟨_, rfl⟩
  rw [hfp] at htf h1 h2
  simp only at htf h1 h2
  clear hfp
  have HTF := Lib.hid htf
  have H1 := Lib.hid h1
  have H2 := Lib.hid h2
  clear htf h1 h2
  go_wp2_with fail
  refine HTF.out.mono ?_
  rintro e w4 ⟨rfl, hw4⟩
  have z4 : wr.heap.size ≤ w4.heap.size := hw4.size
  have qz := (hw4.block _ pz_l).trans PZ.out
  have qf := (hw4.block _ pf_l).trans PF.out
  have qn := (hw4.block _ pn_l).trans PN.out
  have qd := (hw4.block D pd_l).trans PD.out
  have hB4 := HB.out.trans (hw4.mono (by omega))
  have hin4 := tmRep.keep (w' := w4) HIN.out (fun b hb => hw4.block b hb.2.1) (fun _ h => h)
  have lz := lt_heap qz
  have lf := lt_heap qf
  have ln := lt_heap qn
  have ld := lt_heap qd
  clear hw4
  clear pz_0 pz_1 pz_2 pz_3 pz_4 pz_5 pz_f0 pz_f1 pz_f2 pz_f3 pz_f4 pz_f5 pz_l pf_0 pf_1 pf_f0 pf_f1 pf_l pn_0 pn_1 pn_2 pn_3 pn_4 pn_5 pn_l
  clear pd_0 pd_1 pd_2 pd_3 pd_4 pd_5 pd_f0 pd_f1 pd_f2 pd_f3 pd_f4 pd_f5 pd_l
  clear PZ PF PN PD HB HIN
  have QZ := Lib.hid qz
  have QF := Lib.hid qf
  have QN := Lib.hid qn
  have QD := Lib.hid qd
  have HB4 := Lib.hid hB4
  have HIN4 := Lib.hid hin4
  clear qz qf qn qd hB4 hin4
  go_upto_region 47 with (fail)
  refine gen_last (fun W => (W.heap[w.heap.size]? = some (.cells #[.int .i64 0, .string ⟨#[]⟩, .int .i64 0, .string ⟨#[]⟩, .slice none 0 0, .slice none 0 0] 27 (0, 0)) ∧ W.heap[w.heap.size + 1]? = some (.cells #[.int .i64 0, .int .i64 0] 29 (0, 0)) ∧ W.heap[w.heap.size + 2]? = some (.cells #[.int .i64 0, .string ⟨#[]⟩, .int .i64 0, .string ⟨#[]⟩, .slice none 0 0, .slice none 0 0] 27 (0, 0))) ∧ Below w.heap.size w W ∧ W.heap[D]? = some (.cells #[.int .i64 v.tm.lab.kind, .string v.tm.lab.nm, .int .i64 v.tm.lab.ix, .string s1, .slice A1 n1 c1, .slice B1 m1 d1] 27 (0, 0)) ∧ W.heap[w4.heap.size]? = some (.cells #[.int .i64 (fc : Nat), .int .i64 fi] 29 (0, 0)) ∧ tmRep.R W (fun b => hi ≤ b ∧ b < wr.heap.size ∧ (Value.slice Aq ([] : List F7).length cq).ownBlock ≠ some b ∧ b ≠ D) v.tm [.int .i64 v.tm.lab.kind, .string v.tm.lab.nm, .int .i64 v.tm.lab.ix, .string s1, .slice A1 n1 c1, .slice B1 m1 d1] ∧ w4.heap.size < W.heap.size) ?_ ?_
  · exact ⟨⟨heap_old lz QZ.out, heap_old lf QF.out, heap_old ln QN.out⟩, HB4.out.alloc (by omega) _, heap_old ld QD.out, heap_at rfl, tmRep.keep HIN4.out (fun b hb => heap_old (by have := hb.2.1; omega) rfl) (fun _ h => h), by simp⟩
  rintro w5 ⟨⟨pz, pf, pn⟩, hB, pd, pe, hin, z5⟩
  clear lz lf ln ld QZ QF QN QD HB4 HIN4
  have HB := Lib.hid hB
  have HIN := Lib.hid hin
  clear hB hin
  have pz_0 := cv0 pz
  have pz_1 := cv1 pz
  have pz_2 := cv2 pz
  have pz_3 := cv3 pz
  have pz_4 := cv4 pz
  have pz_5 := cv5 pz
  have pz_f0 := free_heap pz 0
  have pz_f1 := free_heap pz 1
  have pz_f2 := free_heap pz 2
  have pz_f3 := free_heap pz 3
  have pz_f4 := free_heap pz 4
  have pz_f5 := free_heap pz 5
  have pz_l := lt_heap pz
  have PZ := Lib.hid pz
  clear pz
  have pf_0 := cv0 pf
  have pf_1 := cv1 pf
  have pf_f0 := free_heap pf 0
  have pf_f1 := free_heap pf 1
  have pf_l := lt_heap pf
  have PF := Lib.hid pf
  clear pf
  have pn_0 := cv0 pn
  have pn_1 := cv1 pn
  have pn_2 := cv2 pn
  have pn_3 := cv3 pn
  have pn_4 := cv4 pn
  have pn_5 := cv5 pn
  have pn_l := lt_heap pn
  have PN := Lib.hid pn
  clear pn
  have pd_0 := cv0 pd
  have pd_1 := cv1 pd
  have pd_2 := cv2 pd
  have pd_3 := cv3 pd
  have pd_4 := cv4 pd
  have pd_5 := cv5 pd
  have pd_l := lt_heap pd
  have PD := Lib.hid pd
  clear pd
  have pe_0 := cv0 pe
  have pe_1 := cv1 pe
  have pe_l := lt_heap pe
  have PE := Lib.hid pe
  clear pe
  by_cases hc0 : fc = 0
  case neg =>
    have hc1 : ((fc : Int) != 0) = true := bne_iff_ne.2 (by omega)
    have hr := H1.out hc0
    have HR := Lib.hid hr
    clear hr
    go_upto_region 48 with (fail)
    go_region
    all_goals go_wp2_with fail
    all_goals first
      | exact HR.out _ _ (id ⟨rfl, rfl, rfl, rfl, trivial⟩) (heap_drew (far2 (by omega) (at6 PZ.out))) (heap_drew (at2 (far6 (by omega) PF.out))) (below2 (below6 HB.out (Nat.le_refl _)) (by omega)).drew
      | exact HR.out _ _ (id ⟨rfl, rfl, rfl, rfl, trivial⟩) (far2 (by omega) (at6 PZ.out)) (at2 (far6 (by omega) PF.out)) (below2 (below6 HB.out.drew (Nat.le_refl _)) (by omega))
      | exact HR.out _ _ (id ⟨rfl, rfl, rfl, rfl, trivial⟩) (at6 (far2 (by omega) PZ.out)) (far6 (by omega) (at2 PF.out)) (below6 (below2 HB.out.drew (by omega)) (Nat.le_refl _))
      | fail
  subst hc0
  have hg2 := H2.out rfl
  have HG2 := Lib.hid hg2
  clear hg2
  go_wp2_with fail
  refine HG2.out [.int .i64 v.tm.lab.kind, .string v.tm.lab.nm, .int .i64 v.tm.lab.ix, .string s1, .slice A1 n1 c1, .slice B1 m1 d1] _ _ (id ⟨rfl, rfl, rfl, rfl, trivial⟩) (far2 (by omega) (at6 PZ.out)) (at2 (far6 (by omega) PF.out)) (below2 (below6 HB.out (Nat.le_refl _)) (by omega)) ?_
  exact tmRep.keep HIN.out (fun b hb => far2 (by have := hb.1; omega) (far6 (by have := hb.1; omega) rfl)) (fun b hb => ⟨by have := hb.1; omega, le2 (le6 (by have := hb.2.1; omega))⟩)
noncomputable def c_tr_cons : Code := sub [1, 1, 1, 1, 1, 0, 0, 0, 1, 1, 1, 1, 1, 1, 1, 0, 0, 0, 0] (Tryd.f9.body.getD .skip)
set_option maxRecDepth 1000000 in
theorem open_tr_cons {P : Act → Prop} {v0 v1 v2 v3 v4 v5 v6 v7 : Value} (h : ∀ x1 x9 x10 x11 x12 x13 x14 x15 x16 x17 x18 x19 x20 x21 x22 x23 x24 x25 x26 x27 x28 x29 x30 x31 x32 x33 x34 x35 x36 x37 x38 x39 x40 x41 x42 x43 x44 x45 x46 x47 x48 x49 x50 x51 x52 x53 x54 x55 x56 x57 x58 x59 x60 x61 x62 x63 x64 x65 x66 x67 x68 x69 x70 x71 x72 x73 x74 x75 x76 x77 x78 x79 x80 x81 x82 x83 x84 x85 x86 x87 x88 x89 x90 x91 x92 x93 x94 x95 x96 x97 x98 x99 x100 x101 x102 x103 x104 x105 x106 x107 x108 x109 x110 x111 x112 x113 x114 x115 x116 x117 x118 x119 x120 x121 x122 x123 x124 x125 x126 x127 x128 x129 x130 x131 x132 x133 x134 x135 x136 x137 x138 x139 x140 x141 x142 x143 x144 x145 x146 x147 x148 x149 x150 x151 x152 x153 x154 x155 x156 x157 x158 x159 x160 x161 x162 x163 x164 x165 x166 x167 x168 x169 x170 x171 x172 x173 x174 x175 x176 x177 x178 x179 x180 x181 x182 x183 x184 x185 x186 x187 x188 x189 x190 x191 x192 x193 x194 x195 x196 x197 x198 x199 x200 x201 x202 x203 x204 x205 x206 x207 x208 x209 x210 x211 x212 x213 x214 x215 x216 x217 x218 x219 x220 x221 x222 x223 x224 x225 x226 x227 x228 x229 x230 x231 x232 x233 x234 x235 x236 x237 x238 x239 x240 x241 x242 x243 x244 x245 x246 x247 x248 x249 x250 x251 x252 x253 x254 x255 x256 x257 x258 x259 x260 x261 x262 x263 x264 x265 x266 x267 x268 x269 x270 x271 x272 x273 x274 x275 x276 x277 x278 x279 x280 x281 x282 x283 x284 x285 x286 x287 x288 x289 x290 x291 x292 x293 x294 x295 x296 x297 x298 x299 x300 x301 x302 x303 x304 x305 x306 x307 x308 x309 x310 x311 x312 x313 x314 x315 x316 x317 x318 x319 x320 x321 x322 x323 x324 x325 x326 x327 x328 x329 : Value, P ⟨(v0 :: x1 :: v1 :: v2 :: v3 :: v4 :: v5 :: v6 :: v7 :: x9 :: x10 :: x11 :: x12 :: x13 :: x14 :: x15 :: x16 :: x17 :: x18 :: x19 :: x20 :: x21 :: x22 :: x23 :: x24 :: x25 :: x26 :: x27 :: x28 :: x29 :: x30 :: x31 :: x32 :: x33 :: x34 :: x35 :: x36 :: x37 :: x38 :: x39 :: x40 :: x41 :: x42 :: x43 :: x44 :: x45 :: x46 :: x47 :: x48 :: x49 :: x50 :: x51 :: x52 :: x53 :: x54 :: x55 :: x56 :: x57 :: x58 :: x59 :: x60 :: x61 :: x62 :: x63 :: x64 :: x65 :: x66 :: x67 :: x68 :: x69 :: x70 :: x71 :: x72 :: x73 :: x74 :: x75 :: x76 :: x77 :: x78 :: x79 :: x80 :: x81 :: x82 :: x83 :: x84 :: x85 :: x86 :: x87 :: x88 :: x89 :: x90 :: x91 :: x92 :: x93 :: x94 :: x95 :: x96 :: x97 :: x98 :: x99 :: x100 :: x101 :: x102 :: x103 :: x104 :: x105 :: x106 :: x107 :: x108 :: x109 :: x110 :: x111 :: x112 :: x113 :: x114 :: x115 :: x116 :: x117 :: x118 :: x119 :: x120 :: x121 :: x122 :: x123 :: x124 :: x125 :: x126 :: x127 :: x128 :: x129 :: x130 :: x131 :: x132 :: x133 :: x134 :: x135 :: x136 :: x137 :: x138 :: x139 :: x140 :: x141 :: x142 :: x143 :: x144 :: x145 :: x146 :: x147 :: x148 :: x149 :: x150 :: x151 :: x152 :: x153 :: x154 :: x155 :: x156 :: x157 :: x158 :: x159 :: x160 :: x161 :: x162 :: x163 :: x164 :: x165 :: x166 :: x167 :: x168 :: x169 :: x170 :: x171 :: x172 :: x173 :: x174 :: x175 :: x176 :: x177 :: x178 :: x179 :: x180 :: x181 :: x182 :: x183 :: x184 :: x185 :: x186 :: x187 :: x188 :: x189 :: x190 :: x191 :: x192 :: x193 :: x194 :: x195 :: x196 :: x197 :: x198 :: x199 :: x200 :: x201 :: x202 :: x203 :: x204 :: x205 :: x206 :: x207 :: x208 :: x209 :: x210 :: x211 :: x212 :: x213 :: x214 :: x215 :: x216 :: x217 :: x218 :: x219 :: x220 :: x221 :: x222 :: x223 :: x224 :: x225 :: x226 :: x227 :: x228 :: x229 :: x230 :: x231 :: x232 :: x233 :: x234 :: x235 :: x236 :: x237 :: x238 :: x239 :: x240 :: x241 :: x242 :: x243 :: x244 :: x245 :: x246 :: x247 :: x248 :: x249 :: x250 :: x251 :: x252 :: x253 :: x254 :: x255 :: x256 :: x257 :: x258 :: x259 :: x260 :: x261 :: x262 :: x263 :: x264 :: x265 :: x266 :: x267 :: x268 :: x269 :: x270 :: x271 :: x272 :: x273 :: x274 :: x275 :: x276 :: x277 :: x278 :: x279 :: x280 :: x281 :: x282 :: x283 :: x284 :: x285 :: x286 :: x287 :: x288 :: x289 :: x290 :: x291 :: x292 :: x293 :: x294 :: x295 :: x296 :: x297 :: x298 :: x299 :: x300 :: x301 :: x302 :: x303 :: x304 :: x305 :: x306 :: x307 :: x308 :: x309 :: x310 :: x311 :: x312 :: x313 :: x314 :: x315 :: x316 :: x317 :: x318 :: x319 :: x320 :: x321 :: x322 :: x323 :: x324 :: x325 :: x326 :: x327 :: x328 :: x329 :: []).toArray, []⟩) : ∀ a, Frm 330 [(0, v0), (2, v1), (3, v2), (4, v3), (5, v4), (6, v5), (7, v6), (8, v7)] a → P a := by
  rintro a ⟨h1, h2, e0, e1, e2, e3, e4, e5, e6, e7, _⟩
  revert e0 e1 e2 e3 e4 e5 e6 e7
  refine frame_tr (P := fun a => a.tmps.toList[0]? = some v0 → a.tmps.toList[2]? = some v1 → a.tmps.toList[3]? = some v2 → a.tmps.toList[4]? = some v3 → a.tmps.toList[5]? = some v4 → a.tmps.toList[6]? = some v5 → a.tmps.toList[7]? = some v6 → a.tmps.toList[8]? = some v7 → P a) ?_ a h1 h2
  intro x0 x1 x2 x3 x4 x5 x6 x7 x8 x9 x10 x11 x12 x13 x14 x15 x16 x17 x18 x19 x20 x21 x22 x23 x24 x25 x26 x27 x28 x29 x30 x31 x32 x33 x34 x35 x36 x37 x38 x39 x40 x41 x42 x43 x44 x45 x46 x47 x48 x49 x50 x51 x52 x53 x54 x55 x56 x57 x58 x59 x60 x61 x62 x63 x64 x65 x66 x67 x68 x69 x70 x71 x72 x73 x74 x75 x76 x77 x78 x79 x80 x81 x82 x83 x84 x85 x86 x87 x88 x89 x90 x91 x92 x93 x94 x95 x96 x97 x98 x99 x100 x101 x102 x103 x104 x105 x106 x107 x108 x109 x110 x111 x112 x113 x114 x115 x116 x117 x118 x119 x120 x121 x122 x123 x124 x125 x126 x127 x128 x129 x130 x131 x132 x133 x134 x135 x136 x137 x138 x139 x140 x141 x142 x143 x144 x145 x146 x147 x148 x149 x150 x151 x152 x153 x154 x155 x156 x157 x158 x159 x160 x161 x162 x163 x164 x165 x166 x167 x168 x169 x170 x171 x172 x173 x174 x175 x176 x177 x178 x179 x180 x181 x182 x183 x184 x185 x186 x187 x188 x189 x190 x191 x192 x193 x194 x195 x196 x197 x198 x199 x200 x201 x202 x203 x204 x205 x206 x207 x208 x209 x210 x211 x212 x213 x214 x215 x216 x217 x218 x219 x220 x221 x222 x223 x224 x225 x226 x227 x228 x229 x230 x231 x232 x233 x234 x235 x236 x237 x238 x239 x240 x241 x242 x243 x244 x245 x246 x247 x248 x249 x250 x251 x252 x253 x254 x255 x256 x257 x258 x259 x260 x261 x262 x263 x264 x265 x266 x267 x268 x269 x270 x271 x272 x273 x274 x275 x276 x277 x278 x279 x280 x281 x282 x283 x284 x285 x286 x287 x288 x289 x290 x291 x292 x293 x294 x295 x296 x297 x298 x299 x300 x301 x302 x303 x304 x305 x306 x307 x308 x309 x310 x311 x312 x313 x314 x315 x316 x317 x318 x319 x320 x321 x322 x323 x324 x325 x326 x327 x328 x329 e0 e1 e2 e3 e4 e5 e6 e7
  obtain rfl : x0 = v0 := Option.some.inj e0
  obtain rfl : x2 = v1 := Option.some.inj e1
  obtain rfl : x3 = v2 := Option.some.inj e2
  obtain rfl : x4 = v3 := Option.some.inj e3
  obtain rfl : x5 = v4 := Option.some.inj e4
  obtain rfl : x6 = v5 := Option.some.inj e5
  obtain rfl : x7 = v6 := Option.some.inj e6
  obtain rfl : x8 = v7 := Option.some.inj e7
  exact h x1 x9 x10 x11 x12 x13 x14 x15 x16 x17 x18 x19 x20 x21 x22 x23 x24 x25 x26 x27 x28 x29 x30 x31 x32 x33 x34 x35 x36 x37 x38 x39 x40 x41 x42 x43 x44 x45 x46 x47 x48 x49 x50 x51 x52 x53 x54 x55 x56 x57 x58 x59 x60 x61 x62 x63 x64 x65 x66 x67 x68 x69 x70 x71 x72 x73 x74 x75 x76 x77 x78 x79 x80 x81 x82 x83 x84 x85 x86 x87 x88 x89 x90 x91 x92 x93 x94 x95 x96 x97 x98 x99 x100 x101 x102 x103 x104 x105 x106 x107 x108 x109 x110 x111 x112 x113 x114 x115 x116 x117 x118 x119 x120 x121 x122 x123 x124 x125 x126 x127 x128 x129 x130 x131 x132 x133 x134 x135 x136 x137 x138 x139 x140 x141 x142 x143 x144 x145 x146 x147 x148 x149 x150 x151 x152 x153 x154 x155 x156 x157 x158 x159 x160 x161 x162 x163 x164 x165 x166 x167 x168 x169 x170 x171 x172 x173 x174 x175 x176 x177 x178 x179 x180 x181 x182 x183 x184 x185 x186 x187 x188 x189 x190 x191 x192 x193 x194 x195 x196 x197 x198 x199 x200 x201 x202 x203 x204 x205 x206 x207 x208 x209 x210 x211 x212 x213 x214 x215 x216 x217 x218 x219 x220 x221 x222 x223 x224 x225 x226 x227 x228 x229 x230 x231 x232 x233 x234 x235 x236 x237 x238 x239 x240 x241 x242 x243 x244 x245 x246 x247 x248 x249 x250 x251 x252 x253 x254 x255 x256 x257 x258 x259 x260 x261 x262 x263 x264 x265 x266 x267 x268 x269 x270 x271 x272 x273 x274 x275 x276 x277 x278 x279 x280 x281 x282 x283 x284 x285 x286 x287 x288 x289 x290 x291 x292 x293 x294 x295 x296 x297 x298 x299 x300 x301 x302 x303 x304 x305 x306 x307 x308 x309 x310 x311 x312 x313 x314 x315 x316 x317 x318 x319 x320 x321 x322 x323 x324 x325 x326 x327 x328 x329
set_option maxRecDepth 1000000 in
set_option maxHeartbeats 16000000 in
theorem tr_cons_wp {Q : Exit → Act → World → Prop} {x : ByteArray} {w wr : World} {i n : Nat} {D : Nat} {Aq : Option Addr} {cq : Nat} {r : List F7} (hN : ∀ a', Frm 330 [(0, .string x), (2, .pointer (some ⟨w.heap.size, 0, none⟩)), (3, .pointer (some ⟨w.heap.size + 1, 0, none⟩)), (4, .slice Aq (r.length + 1) cq), (5, .int .i64 (i : Nat)), (6, .int .i64 (n : Nat)), (7, .pointer (some ⟨w.heap.size + 2, 0, none⟩)), (8, .pointer (some ⟨D, 0, none⟩))] a' → Q .normal a' wr) : ∀ ac, Frm 330 [(0, .string x), (2, .pointer (some ⟨w.heap.size, 0, none⟩)), (3, .pointer (some ⟨w.heap.size + 1, 0, none⟩)), (4, .slice Aq (r.length + 1) cq), (5, .int .i64 (i : Nat)), (6, .int .i64 (n : Nat)), (7, .pointer (some ⟨w.heap.size + 2, 0, none⟩)), (8, .pointer (some ⟨D, 0, none⟩))] ac → Code.wp Tryd.prog c_tr_cons Q ac wr := by
  refine open_tr_cons (P := fun a => Code.wp Tryd.prog c_tr_cons Q a wr) ?_
  intro x1 x9 x10 x11 x12 x13 x14 x15 x16 x17 x18 x19 x20 x21 x22 x23 x24 x25 x26 x27 x28 x29 x30 x31 x32 x33 x34 x35 x36 x37 x38 x39 x40 x41 x42 x43 x44 x45 x46 x47 x48 x49 x50 x51 x52 x53 x54 x55 x56 x57 x58 x59 x60 x61 x62 x63 x64 x65 x66 x67 x68 x69 x70 x71 x72 x73 x74 x75 x76 x77 x78 x79 x80 x81 x82 x83 x84 x85 x86 x87 x88 x89 x90 x91 x92 x93 x94 x95 x96 x97 x98 x99 x100 x101 x102 x103 x104 x105 x106 x107 x108 x109 x110 x111 x112 x113 x114 x115 x116 x117 x118 x119 x120 x121 x122 x123 x124 x125 x126 x127 x128 x129 x130 x131 x132 x133 x134 x135 x136 x137 x138 x139 x140 x141 x142 x143 x144 x145 x146 x147 x148 x149 x150 x151 x152 x153 x154 x155 x156 x157 x158 x159 x160 x161 x162 x163 x164 x165 x166 x167 x168 x169 x170 x171 x172 x173 x174 x175 x176 x177 x178 x179 x180 x181 x182 x183 x184 x185 x186 x187 x188 x189 x190 x191 x192 x193 x194 x195 x196 x197 x198 x199 x200 x201 x202 x203 x204 x205 x206 x207 x208 x209 x210 x211 x212 x213 x214 x215 x216 x217 x218 x219 x220 x221 x222 x223 x224 x225 x226 x227 x228 x229 x230 x231 x232 x233 x234 x235 x236 x237 x238 x239 x240 x241 x242 x243 x244 x245 x246 x247 x248 x249 x250 x251 x252 x253 x254 x255 x256 x257 x258 x259 x260 x261 x262 x263 x264 x265 x266 x267 x268 x269 x270 x271 x272 x273 x274 x275 x276 x277 x278 x279 x280 x281 x282 x283 x284 x285 x286 x287 x288 x289 x290 x291 x292 x293 x294 x295 x296 x297 x298 x299 x300 x301 x302 x303 x304 x305 x306 x307 x308 x309 x310 x311 x312 x313 x314 x315 x316 x317 x318 x319 x320 x321 x322 x323 x324 x325 x326 x327 x328 x329
  conv => arg 2; whnf
  have HN := Lib.hid hN
  clear hN
  have hnil : (((r.length + 1 : Nat) : Int) == 0) = false := beq_eq_false_iff_ne.2 (by omega)
  have hnil2 : ((r.length : Int) + 1 == 0) = false := beq_eq_false_iff_ne.2 (by omega)
  go_wp2_with fail
  exact HN.out _ (id ⟨rfl, rfl, rfl, rfl, rfl, rfl, rfl, rfl, rfl, rfl, trivial⟩)
noncomputable def c_tr_r50 : Code := sub [1, 1, 1, 1, 1, 0, 0, 0, 1, 1, 1, 1, 1, 1, 1, 0, 0, 0, 1, 0] (Tryd.f9.body.getD .skip)
set_option maxRecDepth 1000000 in
theorem open_tr_r50 {P : Act → Prop} {v0 v1 v2 v3 v4 v5 v6 v7 : Value} (h : ∀ x1 x9 x10 x11 x12 x13 x14 x15 x16 x17 x18 x19 x20 x21 x22 x23 x24 x25 x26 x27 x28 x29 x30 x31 x32 x33 x34 x35 x36 x37 x38 x39 x40 x41 x42 x43 x44 x45 x46 x47 x48 x49 x50 x51 x52 x53 x54 x55 x56 x57 x58 x59 x60 x61 x62 x63 x64 x65 x66 x67 x68 x69 x70 x71 x72 x73 x74 x75 x76 x77 x78 x79 x80 x81 x82 x83 x84 x85 x86 x87 x88 x89 x90 x91 x92 x93 x94 x95 x96 x97 x98 x99 x100 x101 x102 x103 x104 x105 x106 x107 x108 x109 x110 x111 x112 x113 x114 x115 x116 x117 x118 x119 x120 x121 x122 x123 x124 x125 x126 x127 x128 x129 x130 x131 x132 x133 x134 x135 x136 x137 x138 x139 x140 x141 x142 x143 x144 x145 x146 x147 x148 x149 x150 x151 x152 x153 x154 x155 x156 x157 x158 x159 x160 x161 x162 x163 x164 x165 x166 x167 x168 x169 x170 x171 x172 x173 x174 x175 x176 x177 x178 x179 x180 x181 x182 x183 x184 x185 x186 x187 x188 x189 x190 x191 x192 x193 x194 x195 x196 x197 x198 x199 x200 x201 x202 x203 x204 x205 x206 x207 x208 x209 x210 x211 x212 x213 x214 x215 x216 x217 x218 x219 x220 x221 x222 x223 x224 x225 x226 x227 x228 x229 x230 x231 x232 x233 x234 x235 x236 x237 x238 x239 x240 x241 x242 x243 x244 x245 x246 x247 x248 x249 x250 x251 x252 x253 x254 x255 x256 x257 x258 x259 x260 x261 x262 x263 x264 x265 x266 x267 x268 x269 x270 x271 x272 x273 x274 x275 x276 x277 x278 x279 x280 x281 x282 x283 x284 x285 x286 x287 x288 x289 x290 x291 x292 x293 x294 x295 x296 x297 x298 x299 x300 x301 x302 x303 x304 x305 x306 x307 x308 x309 x310 x311 x312 x313 x314 x315 x316 x317 x318 x319 x320 x321 x322 x323 x324 x325 x326 x327 x328 x329 : Value, P ⟨(v0 :: x1 :: v1 :: v2 :: v3 :: v4 :: v5 :: v6 :: v7 :: x9 :: x10 :: x11 :: x12 :: x13 :: x14 :: x15 :: x16 :: x17 :: x18 :: x19 :: x20 :: x21 :: x22 :: x23 :: x24 :: x25 :: x26 :: x27 :: x28 :: x29 :: x30 :: x31 :: x32 :: x33 :: x34 :: x35 :: x36 :: x37 :: x38 :: x39 :: x40 :: x41 :: x42 :: x43 :: x44 :: x45 :: x46 :: x47 :: x48 :: x49 :: x50 :: x51 :: x52 :: x53 :: x54 :: x55 :: x56 :: x57 :: x58 :: x59 :: x60 :: x61 :: x62 :: x63 :: x64 :: x65 :: x66 :: x67 :: x68 :: x69 :: x70 :: x71 :: x72 :: x73 :: x74 :: x75 :: x76 :: x77 :: x78 :: x79 :: x80 :: x81 :: x82 :: x83 :: x84 :: x85 :: x86 :: x87 :: x88 :: x89 :: x90 :: x91 :: x92 :: x93 :: x94 :: x95 :: x96 :: x97 :: x98 :: x99 :: x100 :: x101 :: x102 :: x103 :: x104 :: x105 :: x106 :: x107 :: x108 :: x109 :: x110 :: x111 :: x112 :: x113 :: x114 :: x115 :: x116 :: x117 :: x118 :: x119 :: x120 :: x121 :: x122 :: x123 :: x124 :: x125 :: x126 :: x127 :: x128 :: x129 :: x130 :: x131 :: x132 :: x133 :: x134 :: x135 :: x136 :: x137 :: x138 :: x139 :: x140 :: x141 :: x142 :: x143 :: x144 :: x145 :: x146 :: x147 :: x148 :: x149 :: x150 :: x151 :: x152 :: x153 :: x154 :: x155 :: x156 :: x157 :: x158 :: x159 :: x160 :: x161 :: x162 :: x163 :: x164 :: x165 :: x166 :: x167 :: x168 :: x169 :: x170 :: x171 :: x172 :: x173 :: x174 :: x175 :: x176 :: x177 :: x178 :: x179 :: x180 :: x181 :: x182 :: x183 :: x184 :: x185 :: x186 :: x187 :: x188 :: x189 :: x190 :: x191 :: x192 :: x193 :: x194 :: x195 :: x196 :: x197 :: x198 :: x199 :: x200 :: x201 :: x202 :: x203 :: x204 :: x205 :: x206 :: x207 :: x208 :: x209 :: x210 :: x211 :: x212 :: x213 :: x214 :: x215 :: x216 :: x217 :: x218 :: x219 :: x220 :: x221 :: x222 :: x223 :: x224 :: x225 :: x226 :: x227 :: x228 :: x229 :: x230 :: x231 :: x232 :: x233 :: x234 :: x235 :: x236 :: x237 :: x238 :: x239 :: x240 :: x241 :: x242 :: x243 :: x244 :: x245 :: x246 :: x247 :: x248 :: x249 :: x250 :: x251 :: x252 :: x253 :: x254 :: x255 :: x256 :: x257 :: x258 :: x259 :: x260 :: x261 :: x262 :: x263 :: x264 :: x265 :: x266 :: x267 :: x268 :: x269 :: x270 :: x271 :: x272 :: x273 :: x274 :: x275 :: x276 :: x277 :: x278 :: x279 :: x280 :: x281 :: x282 :: x283 :: x284 :: x285 :: x286 :: x287 :: x288 :: x289 :: x290 :: x291 :: x292 :: x293 :: x294 :: x295 :: x296 :: x297 :: x298 :: x299 :: x300 :: x301 :: x302 :: x303 :: x304 :: x305 :: x306 :: x307 :: x308 :: x309 :: x310 :: x311 :: x312 :: x313 :: x314 :: x315 :: x316 :: x317 :: x318 :: x319 :: x320 :: x321 :: x322 :: x323 :: x324 :: x325 :: x326 :: x327 :: x328 :: x329 :: []).toArray, []⟩) : ∀ a, Frm 330 [(0, v0), (2, v1), (3, v2), (4, v3), (5, v4), (6, v5), (7, v6), (8, v7)] a → P a := by
  rintro a ⟨h1, h2, e0, e1, e2, e3, e4, e5, e6, e7, _⟩
  revert e0 e1 e2 e3 e4 e5 e6 e7
  refine frame_tr (P := fun a => a.tmps.toList[0]? = some v0 → a.tmps.toList[2]? = some v1 → a.tmps.toList[3]? = some v2 → a.tmps.toList[4]? = some v3 → a.tmps.toList[5]? = some v4 → a.tmps.toList[6]? = some v5 → a.tmps.toList[7]? = some v6 → a.tmps.toList[8]? = some v7 → P a) ?_ a h1 h2
  intro x0 x1 x2 x3 x4 x5 x6 x7 x8 x9 x10 x11 x12 x13 x14 x15 x16 x17 x18 x19 x20 x21 x22 x23 x24 x25 x26 x27 x28 x29 x30 x31 x32 x33 x34 x35 x36 x37 x38 x39 x40 x41 x42 x43 x44 x45 x46 x47 x48 x49 x50 x51 x52 x53 x54 x55 x56 x57 x58 x59 x60 x61 x62 x63 x64 x65 x66 x67 x68 x69 x70 x71 x72 x73 x74 x75 x76 x77 x78 x79 x80 x81 x82 x83 x84 x85 x86 x87 x88 x89 x90 x91 x92 x93 x94 x95 x96 x97 x98 x99 x100 x101 x102 x103 x104 x105 x106 x107 x108 x109 x110 x111 x112 x113 x114 x115 x116 x117 x118 x119 x120 x121 x122 x123 x124 x125 x126 x127 x128 x129 x130 x131 x132 x133 x134 x135 x136 x137 x138 x139 x140 x141 x142 x143 x144 x145 x146 x147 x148 x149 x150 x151 x152 x153 x154 x155 x156 x157 x158 x159 x160 x161 x162 x163 x164 x165 x166 x167 x168 x169 x170 x171 x172 x173 x174 x175 x176 x177 x178 x179 x180 x181 x182 x183 x184 x185 x186 x187 x188 x189 x190 x191 x192 x193 x194 x195 x196 x197 x198 x199 x200 x201 x202 x203 x204 x205 x206 x207 x208 x209 x210 x211 x212 x213 x214 x215 x216 x217 x218 x219 x220 x221 x222 x223 x224 x225 x226 x227 x228 x229 x230 x231 x232 x233 x234 x235 x236 x237 x238 x239 x240 x241 x242 x243 x244 x245 x246 x247 x248 x249 x250 x251 x252 x253 x254 x255 x256 x257 x258 x259 x260 x261 x262 x263 x264 x265 x266 x267 x268 x269 x270 x271 x272 x273 x274 x275 x276 x277 x278 x279 x280 x281 x282 x283 x284 x285 x286 x287 x288 x289 x290 x291 x292 x293 x294 x295 x296 x297 x298 x299 x300 x301 x302 x303 x304 x305 x306 x307 x308 x309 x310 x311 x312 x313 x314 x315 x316 x317 x318 x319 x320 x321 x322 x323 x324 x325 x326 x327 x328 x329 e0 e1 e2 e3 e4 e5 e6 e7
  obtain rfl : x0 = v0 := Option.some.inj e0
  obtain rfl : x2 = v1 := Option.some.inj e1
  obtain rfl : x3 = v2 := Option.some.inj e2
  obtain rfl : x4 = v3 := Option.some.inj e3
  obtain rfl : x5 = v4 := Option.some.inj e4
  obtain rfl : x6 = v5 := Option.some.inj e5
  obtain rfl : x7 = v6 := Option.some.inj e6
  obtain rfl : x8 = v7 := Option.some.inj e7
  exact h x1 x9 x10 x11 x12 x13 x14 x15 x16 x17 x18 x19 x20 x21 x22 x23 x24 x25 x26 x27 x28 x29 x30 x31 x32 x33 x34 x35 x36 x37 x38 x39 x40 x41 x42 x43 x44 x45 x46 x47 x48 x49 x50 x51 x52 x53 x54 x55 x56 x57 x58 x59 x60 x61 x62 x63 x64 x65 x66 x67 x68 x69 x70 x71 x72 x73 x74 x75 x76 x77 x78 x79 x80 x81 x82 x83 x84 x85 x86 x87 x88 x89 x90 x91 x92 x93 x94 x95 x96 x97 x98 x99 x100 x101 x102 x103 x104 x105 x106 x107 x108 x109 x110 x111 x112 x113 x114 x115 x116 x117 x118 x119 x120 x121 x122 x123 x124 x125 x126 x127 x128 x129 x130 x131 x132 x133 x134 x135 x136 x137 x138 x139 x140 x141 x142 x143 x144 x145 x146 x147 x148 x149 x150 x151 x152 x153 x154 x155 x156 x157 x158 x159 x160 x161 x162 x163 x164 x165 x166 x167 x168 x169 x170 x171 x172 x173 x174 x175 x176 x177 x178 x179 x180 x181 x182 x183 x184 x185 x186 x187 x188 x189 x190 x191 x192 x193 x194 x195 x196 x197 x198 x199 x200 x201 x202 x203 x204 x205 x206 x207 x208 x209 x210 x211 x212 x213 x214 x215 x216 x217 x218 x219 x220 x221 x222 x223 x224 x225 x226 x227 x228 x229 x230 x231 x232 x233 x234 x235 x236 x237 x238 x239 x240 x241 x242 x243 x244 x245 x246 x247 x248 x249 x250 x251 x252 x253 x254 x255 x256 x257 x258 x259 x260 x261 x262 x263 x264 x265 x266 x267 x268 x269 x270 x271 x272 x273 x274 x275 x276 x277 x278 x279 x280 x281 x282 x283 x284 x285 x286 x287 x288 x289 x290 x291 x292 x293 x294 x295 x296 x297 x298 x299 x300 x301 x302 x303 x304 x305 x306 x307 x308 x309 x310 x311 x312 x313 x314 x315 x316 x317 x318 x319 x320 x321 x322 x323 x324 x325 x326 x327 x328 x329
set_option maxRecDepth 1000000 in
set_option maxHeartbeats 16000000 in
theorem tr_r50_wp {Q : Exit → Act → World → Prop} {x : ByteArray} {w wr : World} {i n : Nat} {D : Nat} {Aq : Option Addr} {cq : Nat} {r : List F7} (hl : r.length ≤ 100) (hN : ∀ a', Frm 330 [(0, .string x), (2, .pointer (some ⟨w.heap.size, 0, none⟩)), (3, .pointer (some ⟨w.heap.size + 1, 0, none⟩)), (4, .slice Aq (r.length + 1) cq), (5, .int .i64 (i : Nat)), (6, .int .i64 (n : Nat)), (7, .pointer (some ⟨w.heap.size + 2, 0, none⟩)), (8, .pointer (some ⟨D, 0, none⟩)), (19, .int .i64 (r.length : Nat))] a' → Q .normal a' wr) : ∀ ac, Frm 330 [(0, .string x), (2, .pointer (some ⟨w.heap.size, 0, none⟩)), (3, .pointer (some ⟨w.heap.size + 1, 0, none⟩)), (4, .slice Aq (r.length + 1) cq), (5, .int .i64 (i : Nat)), (6, .int .i64 (n : Nat)), (7, .pointer (some ⟨w.heap.size + 2, 0, none⟩)), (8, .pointer (some ⟨D, 0, none⟩))] ac → Code.wp Tryd.prog c_tr_r50 Q ac wr := by
  refine open_tr_r50 (P := fun a => Code.wp Tryd.prog c_tr_r50 Q a wr) ?_
  intro x1 x9 x10 x11 x12 x13 x14 x15 x16 x17 x18 x19 x20 x21 x22 x23 x24 x25 x26 x27 x28 x29 x30 x31 x32 x33 x34 x35 x36 x37 x38 x39 x40 x41 x42 x43 x44 x45 x46 x47 x48 x49 x50 x51 x52 x53 x54 x55 x56 x57 x58 x59 x60 x61 x62 x63 x64 x65 x66 x67 x68 x69 x70 x71 x72 x73 x74 x75 x76 x77 x78 x79 x80 x81 x82 x83 x84 x85 x86 x87 x88 x89 x90 x91 x92 x93 x94 x95 x96 x97 x98 x99 x100 x101 x102 x103 x104 x105 x106 x107 x108 x109 x110 x111 x112 x113 x114 x115 x116 x117 x118 x119 x120 x121 x122 x123 x124 x125 x126 x127 x128 x129 x130 x131 x132 x133 x134 x135 x136 x137 x138 x139 x140 x141 x142 x143 x144 x145 x146 x147 x148 x149 x150 x151 x152 x153 x154 x155 x156 x157 x158 x159 x160 x161 x162 x163 x164 x165 x166 x167 x168 x169 x170 x171 x172 x173 x174 x175 x176 x177 x178 x179 x180 x181 x182 x183 x184 x185 x186 x187 x188 x189 x190 x191 x192 x193 x194 x195 x196 x197 x198 x199 x200 x201 x202 x203 x204 x205 x206 x207 x208 x209 x210 x211 x212 x213 x214 x215 x216 x217 x218 x219 x220 x221 x222 x223 x224 x225 x226 x227 x228 x229 x230 x231 x232 x233 x234 x235 x236 x237 x238 x239 x240 x241 x242 x243 x244 x245 x246 x247 x248 x249 x250 x251 x252 x253 x254 x255 x256 x257 x258 x259 x260 x261 x262 x263 x264 x265 x266 x267 x268 x269 x270 x271 x272 x273 x274 x275 x276 x277 x278 x279 x280 x281 x282 x283 x284 x285 x286 x287 x288 x289 x290 x291 x292 x293 x294 x295 x296 x297 x298 x299 x300 x301 x302 x303 x304 x305 x306 x307 x308 x309 x310 x311 x312 x313 x314 x315 x316 x317 x318 x319 x320 x321 x322 x323 x324 x325 x326 x327 x328 x329
  conv => arg 2; whnf
  have HN := Lib.hid hN
  clear hN
  have hp2 : ((r.length + 1 : Nat) : Int) - 1 = (r.length : Int) := by omega
  have hp3 : (r.length : Int) + 1 - 1 = (r.length : Int) := by omega
  go_wp2_with fail
  exact HN.out _ (id ⟨rfl, rfl, rfl, rfl, rfl, rfl, rfl, rfl, rfl, rfl, rfl, trivial⟩)
noncomputable def c_tr_r52 : Code := sub [1, 1, 1, 1, 1, 0, 0, 0, 1, 1, 1, 1, 1, 1, 1, 0, 0, 0, 1, 1, 1, 0] (Tryd.f9.body.getD .skip)
set_option maxRecDepth 1000000 in
theorem open_tr_r52 {P : Act → Prop} {v0 v1 v2 v3 v4 v5 v6 v7 v8 : Value} (h : ∀ x1 x9 x10 x11 x12 x13 x14 x15 x16 x17 x18 x20 x21 x22 x23 x24 x25 x26 x27 x28 x29 x30 x31 x32 x33 x34 x35 x36 x37 x38 x39 x40 x41 x42 x43 x44 x45 x46 x47 x48 x49 x50 x51 x52 x53 x54 x55 x56 x57 x58 x59 x60 x61 x62 x63 x64 x65 x66 x67 x68 x69 x70 x71 x72 x73 x74 x75 x76 x77 x78 x79 x80 x81 x82 x83 x84 x85 x86 x87 x88 x89 x90 x91 x92 x93 x94 x95 x96 x97 x98 x99 x100 x101 x102 x103 x104 x105 x106 x107 x108 x109 x110 x111 x112 x113 x114 x115 x116 x117 x118 x119 x120 x121 x122 x123 x124 x125 x126 x127 x128 x129 x130 x131 x132 x133 x134 x135 x136 x137 x138 x139 x140 x141 x142 x143 x144 x145 x146 x147 x148 x149 x150 x151 x152 x153 x154 x155 x156 x157 x158 x159 x160 x161 x162 x163 x164 x165 x166 x167 x168 x169 x170 x171 x172 x173 x174 x175 x176 x177 x178 x179 x180 x181 x182 x183 x184 x185 x186 x187 x188 x189 x190 x191 x192 x193 x194 x195 x196 x197 x198 x199 x200 x201 x202 x203 x204 x205 x206 x207 x208 x209 x210 x211 x212 x213 x214 x215 x216 x217 x218 x219 x220 x221 x222 x223 x224 x225 x226 x227 x228 x229 x230 x231 x232 x233 x234 x235 x236 x237 x238 x239 x240 x241 x242 x243 x244 x245 x246 x247 x248 x249 x250 x251 x252 x253 x254 x255 x256 x257 x258 x259 x260 x261 x262 x263 x264 x265 x266 x267 x268 x269 x270 x271 x272 x273 x274 x275 x276 x277 x278 x279 x280 x281 x282 x283 x284 x285 x286 x287 x288 x289 x290 x291 x292 x293 x294 x295 x296 x297 x298 x299 x300 x301 x302 x303 x304 x305 x306 x307 x308 x309 x310 x311 x312 x313 x314 x315 x316 x317 x318 x319 x320 x321 x322 x323 x324 x325 x326 x327 x328 x329 : Value, P ⟨(v0 :: x1 :: v1 :: v2 :: v3 :: v4 :: v5 :: v6 :: v7 :: x9 :: x10 :: x11 :: x12 :: x13 :: x14 :: x15 :: x16 :: x17 :: x18 :: v8 :: x20 :: x21 :: x22 :: x23 :: x24 :: x25 :: x26 :: x27 :: x28 :: x29 :: x30 :: x31 :: x32 :: x33 :: x34 :: x35 :: x36 :: x37 :: x38 :: x39 :: x40 :: x41 :: x42 :: x43 :: x44 :: x45 :: x46 :: x47 :: x48 :: x49 :: x50 :: x51 :: x52 :: x53 :: x54 :: x55 :: x56 :: x57 :: x58 :: x59 :: x60 :: x61 :: x62 :: x63 :: x64 :: x65 :: x66 :: x67 :: x68 :: x69 :: x70 :: x71 :: x72 :: x73 :: x74 :: x75 :: x76 :: x77 :: x78 :: x79 :: x80 :: x81 :: x82 :: x83 :: x84 :: x85 :: x86 :: x87 :: x88 :: x89 :: x90 :: x91 :: x92 :: x93 :: x94 :: x95 :: x96 :: x97 :: x98 :: x99 :: x100 :: x101 :: x102 :: x103 :: x104 :: x105 :: x106 :: x107 :: x108 :: x109 :: x110 :: x111 :: x112 :: x113 :: x114 :: x115 :: x116 :: x117 :: x118 :: x119 :: x120 :: x121 :: x122 :: x123 :: x124 :: x125 :: x126 :: x127 :: x128 :: x129 :: x130 :: x131 :: x132 :: x133 :: x134 :: x135 :: x136 :: x137 :: x138 :: x139 :: x140 :: x141 :: x142 :: x143 :: x144 :: x145 :: x146 :: x147 :: x148 :: x149 :: x150 :: x151 :: x152 :: x153 :: x154 :: x155 :: x156 :: x157 :: x158 :: x159 :: x160 :: x161 :: x162 :: x163 :: x164 :: x165 :: x166 :: x167 :: x168 :: x169 :: x170 :: x171 :: x172 :: x173 :: x174 :: x175 :: x176 :: x177 :: x178 :: x179 :: x180 :: x181 :: x182 :: x183 :: x184 :: x185 :: x186 :: x187 :: x188 :: x189 :: x190 :: x191 :: x192 :: x193 :: x194 :: x195 :: x196 :: x197 :: x198 :: x199 :: x200 :: x201 :: x202 :: x203 :: x204 :: x205 :: x206 :: x207 :: x208 :: x209 :: x210 :: x211 :: x212 :: x213 :: x214 :: x215 :: x216 :: x217 :: x218 :: x219 :: x220 :: x221 :: x222 :: x223 :: x224 :: x225 :: x226 :: x227 :: x228 :: x229 :: x230 :: x231 :: x232 :: x233 :: x234 :: x235 :: x236 :: x237 :: x238 :: x239 :: x240 :: x241 :: x242 :: x243 :: x244 :: x245 :: x246 :: x247 :: x248 :: x249 :: x250 :: x251 :: x252 :: x253 :: x254 :: x255 :: x256 :: x257 :: x258 :: x259 :: x260 :: x261 :: x262 :: x263 :: x264 :: x265 :: x266 :: x267 :: x268 :: x269 :: x270 :: x271 :: x272 :: x273 :: x274 :: x275 :: x276 :: x277 :: x278 :: x279 :: x280 :: x281 :: x282 :: x283 :: x284 :: x285 :: x286 :: x287 :: x288 :: x289 :: x290 :: x291 :: x292 :: x293 :: x294 :: x295 :: x296 :: x297 :: x298 :: x299 :: x300 :: x301 :: x302 :: x303 :: x304 :: x305 :: x306 :: x307 :: x308 :: x309 :: x310 :: x311 :: x312 :: x313 :: x314 :: x315 :: x316 :: x317 :: x318 :: x319 :: x320 :: x321 :: x322 :: x323 :: x324 :: x325 :: x326 :: x327 :: x328 :: x329 :: []).toArray, []⟩) : ∀ a, Frm 330 [(0, v0), (2, v1), (3, v2), (4, v3), (5, v4), (6, v5), (7, v6), (8, v7), (19, v8)] a → P a := by
  rintro a ⟨h1, h2, e0, e1, e2, e3, e4, e5, e6, e7, e8, _⟩
  revert e0 e1 e2 e3 e4 e5 e6 e7 e8
  refine frame_tr (P := fun a => a.tmps.toList[0]? = some v0 → a.tmps.toList[2]? = some v1 → a.tmps.toList[3]? = some v2 → a.tmps.toList[4]? = some v3 → a.tmps.toList[5]? = some v4 → a.tmps.toList[6]? = some v5 → a.tmps.toList[7]? = some v6 → a.tmps.toList[8]? = some v7 → a.tmps.toList[19]? = some v8 → P a) ?_ a h1 h2
  intro x0 x1 x2 x3 x4 x5 x6 x7 x8 x9 x10 x11 x12 x13 x14 x15 x16 x17 x18 x19 x20 x21 x22 x23 x24 x25 x26 x27 x28 x29 x30 x31 x32 x33 x34 x35 x36 x37 x38 x39 x40 x41 x42 x43 x44 x45 x46 x47 x48 x49 x50 x51 x52 x53 x54 x55 x56 x57 x58 x59 x60 x61 x62 x63 x64 x65 x66 x67 x68 x69 x70 x71 x72 x73 x74 x75 x76 x77 x78 x79 x80 x81 x82 x83 x84 x85 x86 x87 x88 x89 x90 x91 x92 x93 x94 x95 x96 x97 x98 x99 x100 x101 x102 x103 x104 x105 x106 x107 x108 x109 x110 x111 x112 x113 x114 x115 x116 x117 x118 x119 x120 x121 x122 x123 x124 x125 x126 x127 x128 x129 x130 x131 x132 x133 x134 x135 x136 x137 x138 x139 x140 x141 x142 x143 x144 x145 x146 x147 x148 x149 x150 x151 x152 x153 x154 x155 x156 x157 x158 x159 x160 x161 x162 x163 x164 x165 x166 x167 x168 x169 x170 x171 x172 x173 x174 x175 x176 x177 x178 x179 x180 x181 x182 x183 x184 x185 x186 x187 x188 x189 x190 x191 x192 x193 x194 x195 x196 x197 x198 x199 x200 x201 x202 x203 x204 x205 x206 x207 x208 x209 x210 x211 x212 x213 x214 x215 x216 x217 x218 x219 x220 x221 x222 x223 x224 x225 x226 x227 x228 x229 x230 x231 x232 x233 x234 x235 x236 x237 x238 x239 x240 x241 x242 x243 x244 x245 x246 x247 x248 x249 x250 x251 x252 x253 x254 x255 x256 x257 x258 x259 x260 x261 x262 x263 x264 x265 x266 x267 x268 x269 x270 x271 x272 x273 x274 x275 x276 x277 x278 x279 x280 x281 x282 x283 x284 x285 x286 x287 x288 x289 x290 x291 x292 x293 x294 x295 x296 x297 x298 x299 x300 x301 x302 x303 x304 x305 x306 x307 x308 x309 x310 x311 x312 x313 x314 x315 x316 x317 x318 x319 x320 x321 x322 x323 x324 x325 x326 x327 x328 x329 e0 e1 e2 e3 e4 e5 e6 e7 e8
  obtain rfl : x0 = v0 := Option.some.inj e0
  obtain rfl : x2 = v1 := Option.some.inj e1
  obtain rfl : x3 = v2 := Option.some.inj e2
  obtain rfl : x4 = v3 := Option.some.inj e3
  obtain rfl : x5 = v4 := Option.some.inj e4
  obtain rfl : x6 = v5 := Option.some.inj e5
  obtain rfl : x7 = v6 := Option.some.inj e6
  obtain rfl : x8 = v7 := Option.some.inj e7
  obtain rfl : x19 = v8 := Option.some.inj e8
  exact h x1 x9 x10 x11 x12 x13 x14 x15 x16 x17 x18 x20 x21 x22 x23 x24 x25 x26 x27 x28 x29 x30 x31 x32 x33 x34 x35 x36 x37 x38 x39 x40 x41 x42 x43 x44 x45 x46 x47 x48 x49 x50 x51 x52 x53 x54 x55 x56 x57 x58 x59 x60 x61 x62 x63 x64 x65 x66 x67 x68 x69 x70 x71 x72 x73 x74 x75 x76 x77 x78 x79 x80 x81 x82 x83 x84 x85 x86 x87 x88 x89 x90 x91 x92 x93 x94 x95 x96 x97 x98 x99 x100 x101 x102 x103 x104 x105 x106 x107 x108 x109 x110 x111 x112 x113 x114 x115 x116 x117 x118 x119 x120 x121 x122 x123 x124 x125 x126 x127 x128 x129 x130 x131 x132 x133 x134 x135 x136 x137 x138 x139 x140 x141 x142 x143 x144 x145 x146 x147 x148 x149 x150 x151 x152 x153 x154 x155 x156 x157 x158 x159 x160 x161 x162 x163 x164 x165 x166 x167 x168 x169 x170 x171 x172 x173 x174 x175 x176 x177 x178 x179 x180 x181 x182 x183 x184 x185 x186 x187 x188 x189 x190 x191 x192 x193 x194 x195 x196 x197 x198 x199 x200 x201 x202 x203 x204 x205 x206 x207 x208 x209 x210 x211 x212 x213 x214 x215 x216 x217 x218 x219 x220 x221 x222 x223 x224 x225 x226 x227 x228 x229 x230 x231 x232 x233 x234 x235 x236 x237 x238 x239 x240 x241 x242 x243 x244 x245 x246 x247 x248 x249 x250 x251 x252 x253 x254 x255 x256 x257 x258 x259 x260 x261 x262 x263 x264 x265 x266 x267 x268 x269 x270 x271 x272 x273 x274 x275 x276 x277 x278 x279 x280 x281 x282 x283 x284 x285 x286 x287 x288 x289 x290 x291 x292 x293 x294 x295 x296 x297 x298 x299 x300 x301 x302 x303 x304 x305 x306 x307 x308 x309 x310 x311 x312 x313 x314 x315 x316 x317 x318 x319 x320 x321 x322 x323 x324 x325 x326 x327 x328 x329
set_option maxRecDepth 1000000 in
set_option maxHeartbeats 16000000 in
theorem tr_r52_wp {Q : Exit → Act → World → Prop} {x : ByteArray} {w wr : World} {i n : Nat} {f : Fr} {t0 t1 : Value} {r : List F7} {g cq D lo h cap : Nat} {v : Tv} {dc : List Value} (hgW : w.heap.size + 3 ≤ g) (hp : TopAt w wr f t0 t1 r g cq D lo h cap v dc f.want) (hN : ∀ a' wx, Frm 330 [(0, .string x), (2, .pointer (some ⟨w.heap.size, 0, none⟩)), (3, .pointer (some ⟨w.heap.size + 1, 0, none⟩)), (4, .slice (some ⟨g, 0, none⟩) (r.length + 1) cq), (5, .int .i64 (i : Nat)), (6, .int .i64 (n : Nat)), (7, .pointer (some ⟨w.heap.size + 2, 0, none⟩)), (8, .pointer (some ⟨D, 0, none⟩)), (19, .int .i64 (r.length : Nat))] a' → TopAt w wx f t0 t1 r g cq D lo h cap v dc (f.want - 1) → Q .normal a' wx) : ∀ ac, Frm 330 [(0, .string x), (2, .pointer (some ⟨w.heap.size, 0, none⟩)), (3, .pointer (some ⟨w.heap.size + 1, 0, none⟩)), (4, .slice (some ⟨g, 0, none⟩) (r.length + 1) cq), (5, .int .i64 (i : Nat)), (6, .int .i64 (n : Nat)), (7, .pointer (some ⟨w.heap.size + 2, 0, none⟩)), (8, .pointer (some ⟨D, 0, none⟩)), (19, .int .i64 (r.length : Nat))] ac → Code.wp Tryd.prog c_tr_r52 Q ac wr := by
  refine open_tr_r52 (P := fun a => Code.wp Tryd.prog c_tr_r52 Q a wr) ?_
  intro x1 x9 x10 x11 x12 x13 x14 x15 x16 x17 x18 x20 x21 x22 x23 x24 x25 x26 x27 x28 x29 x30 x31 x32 x33 x34 x35 x36 x37 x38 x39 x40 x41 x42 x43 x44 x45 x46 x47 x48 x49 x50 x51 x52 x53 x54 x55 x56 x57 x58 x59 x60 x61 x62 x63 x64 x65 x66 x67 x68 x69 x70 x71 x72 x73 x74 x75 x76 x77 x78 x79 x80 x81 x82 x83 x84 x85 x86 x87 x88 x89 x90 x91 x92 x93 x94 x95 x96 x97 x98 x99 x100 x101 x102 x103 x104 x105 x106 x107 x108 x109 x110 x111 x112 x113 x114 x115 x116 x117 x118 x119 x120 x121 x122 x123 x124 x125 x126 x127 x128 x129 x130 x131 x132 x133 x134 x135 x136 x137 x138 x139 x140 x141 x142 x143 x144 x145 x146 x147 x148 x149 x150 x151 x152 x153 x154 x155 x156 x157 x158 x159 x160 x161 x162 x163 x164 x165 x166 x167 x168 x169 x170 x171 x172 x173 x174 x175 x176 x177 x178 x179 x180 x181 x182 x183 x184 x185 x186 x187 x188 x189 x190 x191 x192 x193 x194 x195 x196 x197 x198 x199 x200 x201 x202 x203 x204 x205 x206 x207 x208 x209 x210 x211 x212 x213 x214 x215 x216 x217 x218 x219 x220 x221 x222 x223 x224 x225 x226 x227 x228 x229 x230 x231 x232 x233 x234 x235 x236 x237 x238 x239 x240 x241 x242 x243 x244 x245 x246 x247 x248 x249 x250 x251 x252 x253 x254 x255 x256 x257 x258 x259 x260 x261 x262 x263 x264 x265 x266 x267 x268 x269 x270 x271 x272 x273 x274 x275 x276 x277 x278 x279 x280 x281 x282 x283 x284 x285 x286 x287 x288 x289 x290 x291 x292 x293 x294 x295 x296 x297 x298 x299 x300 x301 x302 x303 x304 x305 x306 x307 x308 x309 x310 x311 x312 x313 x314 x315 x316 x317 x318 x319 x320 x321 x322 x323 x324 x325 x326 x327 x328 x329
  conv => arg 2; whnf
  have HN := Lib.hid hN
  clear hN
  have hst := hp.st
  have w6 := (hst.cellAt (r.length * 7 + 6) (by omega)).trans (snocAt (j := 6) (f7Cells_len r))
  have w6f := hst.frozenAt (r.length * 7 + 6)
  have hfwn : IntKind.i64.wrap (f.want - 1) = f.want - 1 := by cases f <;> rfl
  have hgd := hp.gl
  have hlol := FsOk.base hp.fs
  have hDl := hp.dl
  have hpll := hp.ll
  have wgl : g < wr.heap.size := by omega
  have q5 : (0 : Int) ≤ (r.length : Int) := by omega
  have q6 : (r.length : Int) < (r.length : Int) + 1 := by omega
  have HP := Lib.hid hp
  have HST := Lib.hid hst
  clear hst
  clear hp
  go_wp2_with fail
  have hs7 := rowSet HST.out (i := r.length * 7 + 6) (by omega) (.int .i64 (f.want - 1))
  rw [set_at (f7Cells_len r) 6] at hs7
  have hgo : ∀ b, b ≠ g → (wr.setCell ⟨g, r.length * 7 + 6, none⟩ (.int .i64 (f.want - 1))).heap[b]? = wr.heap[b]? := fun b hb => heap_far _ hb rfl
  obtain ⟨_, how, hty, hfs, ⟨hz1, hz2, hz3⟩, hd, hB, hdl, hgl, hll, hh1, hh2, hh3, hh4⟩ := HP.out
  have hbz := FsOk.base hfs
  refine HN.out _ _ (id ⟨rfl, rfl, rfl, rfl, rfl, rfl, rfl, rfl, rfl, rfl, rfl, trivial⟩) ⟨hs7, how.keepS (fun b _ e => hgo b (fun e2 => hh3 (by rw [← e2]; exact e.symm))) (fun b hb _ => hgo b (fun e => hb.2.2.1 (by rw [e]))) (fun b hb => ⟨hb.1, by rw [size_set]; exact hb.2.1, hb.2.2⟩), (hty.keep (fun b hb => hgo b (fun e => hb.2.2.1 (by rw [e])))).mono (fun b hb => ⟨hb.1, by rw [size_set]; exact hb.2.1, hb.2.2⟩), hfs.keep (fun b h1 h2 h3 => hgo b (fun e => h3 (by rw [e]))) (fun _ _ e => e) (Nat.le_refl _), ⟨(hgo _ (by omega)).trans hz1, (hgo _ (by omega)).trans hz2, (hgo _ (by omega)).trans hz3⟩, (hgo _ (by omega)).trans hd, hB.setCell (show w.heap.size ≤ g by omega) _, by rw [size_set]; exact hdl, hgl, hll, hh1, by rw [size_set]; exact hh2, hh3, hh4⟩
noncomputable def c_tr_tabs : Code := sub [1, 1, 1, 1, 1, 0, 0, 0, 1, 1, 1, 1, 1, 1, 1, 0, 0, 0, 1, 1, 1, 1] (Tryd.f9.body.getD .skip)
set_option maxRecDepth 1000000 in
theorem open_tr_tabs {P : Act → Prop} {v0 v1 v2 v3 v4 v5 v6 v7 v8 : Value} (h : ∀ x1 x9 x10 x11 x12 x13 x14 x15 x16 x17 x18 x20 x21 x22 x23 x24 x25 x26 x27 x28 x29 x30 x31 x32 x33 x34 x35 x36 x37 x38 x39 x40 x41 x42 x43 x44 x45 x46 x47 x48 x49 x50 x51 x52 x53 x54 x55 x56 x57 x58 x59 x60 x61 x62 x63 x64 x65 x66 x67 x68 x69 x70 x71 x72 x73 x74 x75 x76 x77 x78 x79 x80 x81 x82 x83 x84 x85 x86 x87 x88 x89 x90 x91 x92 x93 x94 x95 x96 x97 x98 x99 x100 x101 x102 x103 x104 x105 x106 x107 x108 x109 x110 x111 x112 x113 x114 x115 x116 x117 x118 x119 x120 x121 x122 x123 x124 x125 x126 x127 x128 x129 x130 x131 x132 x133 x134 x135 x136 x137 x138 x139 x140 x141 x142 x143 x144 x145 x146 x147 x148 x149 x150 x151 x152 x153 x154 x155 x156 x157 x158 x159 x160 x161 x162 x163 x164 x165 x166 x167 x168 x169 x170 x171 x172 x173 x174 x175 x176 x177 x178 x179 x180 x181 x182 x183 x184 x185 x186 x187 x188 x189 x190 x191 x192 x193 x194 x195 x196 x197 x198 x199 x200 x201 x202 x203 x204 x205 x206 x207 x208 x209 x210 x211 x212 x213 x214 x215 x216 x217 x218 x219 x220 x221 x222 x223 x224 x225 x226 x227 x228 x229 x230 x231 x232 x233 x234 x235 x236 x237 x238 x239 x240 x241 x242 x243 x244 x245 x246 x247 x248 x249 x250 x251 x252 x253 x254 x255 x256 x257 x258 x259 x260 x261 x262 x263 x264 x265 x266 x267 x268 x269 x270 x271 x272 x273 x274 x275 x276 x277 x278 x279 x280 x281 x282 x283 x284 x285 x286 x287 x288 x289 x290 x291 x292 x293 x294 x295 x296 x297 x298 x299 x300 x301 x302 x303 x304 x305 x306 x307 x308 x309 x310 x311 x312 x313 x314 x315 x316 x317 x318 x319 x320 x321 x322 x323 x324 x325 x326 x327 x328 x329 : Value, P ⟨(v0 :: x1 :: v1 :: v2 :: v3 :: v4 :: v5 :: v6 :: v7 :: x9 :: x10 :: x11 :: x12 :: x13 :: x14 :: x15 :: x16 :: x17 :: x18 :: v8 :: x20 :: x21 :: x22 :: x23 :: x24 :: x25 :: x26 :: x27 :: x28 :: x29 :: x30 :: x31 :: x32 :: x33 :: x34 :: x35 :: x36 :: x37 :: x38 :: x39 :: x40 :: x41 :: x42 :: x43 :: x44 :: x45 :: x46 :: x47 :: x48 :: x49 :: x50 :: x51 :: x52 :: x53 :: x54 :: x55 :: x56 :: x57 :: x58 :: x59 :: x60 :: x61 :: x62 :: x63 :: x64 :: x65 :: x66 :: x67 :: x68 :: x69 :: x70 :: x71 :: x72 :: x73 :: x74 :: x75 :: x76 :: x77 :: x78 :: x79 :: x80 :: x81 :: x82 :: x83 :: x84 :: x85 :: x86 :: x87 :: x88 :: x89 :: x90 :: x91 :: x92 :: x93 :: x94 :: x95 :: x96 :: x97 :: x98 :: x99 :: x100 :: x101 :: x102 :: x103 :: x104 :: x105 :: x106 :: x107 :: x108 :: x109 :: x110 :: x111 :: x112 :: x113 :: x114 :: x115 :: x116 :: x117 :: x118 :: x119 :: x120 :: x121 :: x122 :: x123 :: x124 :: x125 :: x126 :: x127 :: x128 :: x129 :: x130 :: x131 :: x132 :: x133 :: x134 :: x135 :: x136 :: x137 :: x138 :: x139 :: x140 :: x141 :: x142 :: x143 :: x144 :: x145 :: x146 :: x147 :: x148 :: x149 :: x150 :: x151 :: x152 :: x153 :: x154 :: x155 :: x156 :: x157 :: x158 :: x159 :: x160 :: x161 :: x162 :: x163 :: x164 :: x165 :: x166 :: x167 :: x168 :: x169 :: x170 :: x171 :: x172 :: x173 :: x174 :: x175 :: x176 :: x177 :: x178 :: x179 :: x180 :: x181 :: x182 :: x183 :: x184 :: x185 :: x186 :: x187 :: x188 :: x189 :: x190 :: x191 :: x192 :: x193 :: x194 :: x195 :: x196 :: x197 :: x198 :: x199 :: x200 :: x201 :: x202 :: x203 :: x204 :: x205 :: x206 :: x207 :: x208 :: x209 :: x210 :: x211 :: x212 :: x213 :: x214 :: x215 :: x216 :: x217 :: x218 :: x219 :: x220 :: x221 :: x222 :: x223 :: x224 :: x225 :: x226 :: x227 :: x228 :: x229 :: x230 :: x231 :: x232 :: x233 :: x234 :: x235 :: x236 :: x237 :: x238 :: x239 :: x240 :: x241 :: x242 :: x243 :: x244 :: x245 :: x246 :: x247 :: x248 :: x249 :: x250 :: x251 :: x252 :: x253 :: x254 :: x255 :: x256 :: x257 :: x258 :: x259 :: x260 :: x261 :: x262 :: x263 :: x264 :: x265 :: x266 :: x267 :: x268 :: x269 :: x270 :: x271 :: x272 :: x273 :: x274 :: x275 :: x276 :: x277 :: x278 :: x279 :: x280 :: x281 :: x282 :: x283 :: x284 :: x285 :: x286 :: x287 :: x288 :: x289 :: x290 :: x291 :: x292 :: x293 :: x294 :: x295 :: x296 :: x297 :: x298 :: x299 :: x300 :: x301 :: x302 :: x303 :: x304 :: x305 :: x306 :: x307 :: x308 :: x309 :: x310 :: x311 :: x312 :: x313 :: x314 :: x315 :: x316 :: x317 :: x318 :: x319 :: x320 :: x321 :: x322 :: x323 :: x324 :: x325 :: x326 :: x327 :: x328 :: x329 :: []).toArray, []⟩) : ∀ a, Frm 330 [(0, v0), (2, v1), (3, v2), (4, v3), (5, v4), (6, v5), (7, v6), (8, v7), (19, v8)] a → P a := by
  rintro a ⟨h1, h2, e0, e1, e2, e3, e4, e5, e6, e7, e8, _⟩
  revert e0 e1 e2 e3 e4 e5 e6 e7 e8
  refine frame_tr (P := fun a => a.tmps.toList[0]? = some v0 → a.tmps.toList[2]? = some v1 → a.tmps.toList[3]? = some v2 → a.tmps.toList[4]? = some v3 → a.tmps.toList[5]? = some v4 → a.tmps.toList[6]? = some v5 → a.tmps.toList[7]? = some v6 → a.tmps.toList[8]? = some v7 → a.tmps.toList[19]? = some v8 → P a) ?_ a h1 h2
  intro x0 x1 x2 x3 x4 x5 x6 x7 x8 x9 x10 x11 x12 x13 x14 x15 x16 x17 x18 x19 x20 x21 x22 x23 x24 x25 x26 x27 x28 x29 x30 x31 x32 x33 x34 x35 x36 x37 x38 x39 x40 x41 x42 x43 x44 x45 x46 x47 x48 x49 x50 x51 x52 x53 x54 x55 x56 x57 x58 x59 x60 x61 x62 x63 x64 x65 x66 x67 x68 x69 x70 x71 x72 x73 x74 x75 x76 x77 x78 x79 x80 x81 x82 x83 x84 x85 x86 x87 x88 x89 x90 x91 x92 x93 x94 x95 x96 x97 x98 x99 x100 x101 x102 x103 x104 x105 x106 x107 x108 x109 x110 x111 x112 x113 x114 x115 x116 x117 x118 x119 x120 x121 x122 x123 x124 x125 x126 x127 x128 x129 x130 x131 x132 x133 x134 x135 x136 x137 x138 x139 x140 x141 x142 x143 x144 x145 x146 x147 x148 x149 x150 x151 x152 x153 x154 x155 x156 x157 x158 x159 x160 x161 x162 x163 x164 x165 x166 x167 x168 x169 x170 x171 x172 x173 x174 x175 x176 x177 x178 x179 x180 x181 x182 x183 x184 x185 x186 x187 x188 x189 x190 x191 x192 x193 x194 x195 x196 x197 x198 x199 x200 x201 x202 x203 x204 x205 x206 x207 x208 x209 x210 x211 x212 x213 x214 x215 x216 x217 x218 x219 x220 x221 x222 x223 x224 x225 x226 x227 x228 x229 x230 x231 x232 x233 x234 x235 x236 x237 x238 x239 x240 x241 x242 x243 x244 x245 x246 x247 x248 x249 x250 x251 x252 x253 x254 x255 x256 x257 x258 x259 x260 x261 x262 x263 x264 x265 x266 x267 x268 x269 x270 x271 x272 x273 x274 x275 x276 x277 x278 x279 x280 x281 x282 x283 x284 x285 x286 x287 x288 x289 x290 x291 x292 x293 x294 x295 x296 x297 x298 x299 x300 x301 x302 x303 x304 x305 x306 x307 x308 x309 x310 x311 x312 x313 x314 x315 x316 x317 x318 x319 x320 x321 x322 x323 x324 x325 x326 x327 x328 x329 e0 e1 e2 e3 e4 e5 e6 e7 e8
  obtain rfl : x0 = v0 := Option.some.inj e0
  obtain rfl : x2 = v1 := Option.some.inj e1
  obtain rfl : x3 = v2 := Option.some.inj e2
  obtain rfl : x4 = v3 := Option.some.inj e3
  obtain rfl : x5 = v4 := Option.some.inj e4
  obtain rfl : x6 = v5 := Option.some.inj e5
  obtain rfl : x7 = v6 := Option.some.inj e6
  obtain rfl : x8 = v7 := Option.some.inj e7
  obtain rfl : x19 = v8 := Option.some.inj e8
  exact h x1 x9 x10 x11 x12 x13 x14 x15 x16 x17 x18 x20 x21 x22 x23 x24 x25 x26 x27 x28 x29 x30 x31 x32 x33 x34 x35 x36 x37 x38 x39 x40 x41 x42 x43 x44 x45 x46 x47 x48 x49 x50 x51 x52 x53 x54 x55 x56 x57 x58 x59 x60 x61 x62 x63 x64 x65 x66 x67 x68 x69 x70 x71 x72 x73 x74 x75 x76 x77 x78 x79 x80 x81 x82 x83 x84 x85 x86 x87 x88 x89 x90 x91 x92 x93 x94 x95 x96 x97 x98 x99 x100 x101 x102 x103 x104 x105 x106 x107 x108 x109 x110 x111 x112 x113 x114 x115 x116 x117 x118 x119 x120 x121 x122 x123 x124 x125 x126 x127 x128 x129 x130 x131 x132 x133 x134 x135 x136 x137 x138 x139 x140 x141 x142 x143 x144 x145 x146 x147 x148 x149 x150 x151 x152 x153 x154 x155 x156 x157 x158 x159 x160 x161 x162 x163 x164 x165 x166 x167 x168 x169 x170 x171 x172 x173 x174 x175 x176 x177 x178 x179 x180 x181 x182 x183 x184 x185 x186 x187 x188 x189 x190 x191 x192 x193 x194 x195 x196 x197 x198 x199 x200 x201 x202 x203 x204 x205 x206 x207 x208 x209 x210 x211 x212 x213 x214 x215 x216 x217 x218 x219 x220 x221 x222 x223 x224 x225 x226 x227 x228 x229 x230 x231 x232 x233 x234 x235 x236 x237 x238 x239 x240 x241 x242 x243 x244 x245 x246 x247 x248 x249 x250 x251 x252 x253 x254 x255 x256 x257 x258 x259 x260 x261 x262 x263 x264 x265 x266 x267 x268 x269 x270 x271 x272 x273 x274 x275 x276 x277 x278 x279 x280 x281 x282 x283 x284 x285 x286 x287 x288 x289 x290 x291 x292 x293 x294 x295 x296 x297 x298 x299 x300 x301 x302 x303 x304 x305 x306 x307 x308 x309 x310 x311 x312 x313 x314 x315 x316 x317 x318 x319 x320 x321 x322 x323 x324 x325 x326 x327 x328 x329
set_option maxRecDepth 1000000 in
set_option maxHeartbeats 16000000 in
theorem tr_tabs_wp {Q : Exit → Act → World → Prop} {x : ByteArray} {w wr : World} {i n : Nat} {t0 t1 : Value} {r : List F7} {g cq D lo h cap : Nat} {v : Tv} {dc : List Value} {s : Sy} (hx4 : x.size ≤ 4000) (hgW : w.heap.size + 3 ≤ g) (hdc : dc = [dc.getD 0 undef, dc.getD 1 undef, dc.getD 2 undef, dc.getD 3 undef, dc.getD 4 undef, dc.getD 5 undef]) (hp : TopAt w wr (Fr.abs s) t0 t1 r g cq D lo h cap v dc 0) (hR : byteAt x i ≠ 93 → ∀ a' w', Frm 330 [(2, .pointer (some ⟨w.heap.size, 0, none⟩)), (3, .pointer (some ⟨w.heap.size + 1, 0, none⟩))] a' → w'.heap[w.heap.size]? = some (.cells #[.int .i64 0, .string ⟨#[]⟩, .int .i64 0, .string ⟨#[]⟩, .slice none 0 0, .slice none 0 0] 27 (0, 0)) → w'.heap[w.heap.size + 1]? = some (.cells #[.int .i64 11, .int .i64 (i : Nat)] 29 (0, 0)) → Below w.heap.size w w' → Q .ret a' w') (hN : byteAt x i = 93 → ∀ dc' a' wx, Frm 330 [(0, .string x), (2, .pointer (some ⟨w.heap.size, 0, none⟩)), (3, .pointer (some ⟨w.heap.size + 1, 0, none⟩)), (4, .slice (some ⟨g, 0, none⟩) r.length cq), (5, .int .i64 (i + 1 : Nat)), (6, .int .i64 (n : Nat)), (7, .pointer (some ⟨w.heap.size + 2, 0, none⟩)), (8, .pointer (some ⟨D, 0, none⟩))] a' → PopAt w wx r (some ⟨g, 0, none⟩) cq D lo (.abs s v) dc' → Q .normal a' wx) : ∀ ac, Frm 330 [(0, .string x), (2, .pointer (some ⟨w.heap.size, 0, none⟩)), (3, .pointer (some ⟨w.heap.size + 1, 0, none⟩)), (4, .slice (some ⟨g, 0, none⟩) (r.length + 1) cq), (5, .int .i64 (i : Nat)), (6, .int .i64 (n : Nat)), (7, .pointer (some ⟨w.heap.size + 2, 0, none⟩)), (8, .pointer (some ⟨D, 0, none⟩)), (19, .int .i64 (r.length : Nat))] ac → Code.wp Tryd.prog c_tr_tabs Q ac wr := by
  refine open_tr_tabs (P := fun a => Code.wp Tryd.prog c_tr_tabs Q a wr) ?_
  intro x1 x9 x10 x11 x12 x13 x14 x15 x16 x17 x18 x20 x21 x22 x23 x24 x25 x26 x27 x28 x29 x30 x31 x32 x33 x34 x35 x36 x37 x38 x39 x40 x41 x42 x43 x44 x45 x46 x47 x48 x49 x50 x51 x52 x53 x54 x55 x56 x57 x58 x59 x60 x61 x62 x63 x64 x65 x66 x67 x68 x69 x70 x71 x72 x73 x74 x75 x76 x77 x78 x79 x80 x81 x82 x83 x84 x85 x86 x87 x88 x89 x90 x91 x92 x93 x94 x95 x96 x97 x98 x99 x100 x101 x102 x103 x104 x105 x106 x107 x108 x109 x110 x111 x112 x113 x114 x115 x116 x117 x118 x119 x120 x121 x122 x123 x124 x125 x126 x127 x128 x129 x130 x131 x132 x133 x134 x135 x136 x137 x138 x139 x140 x141 x142 x143 x144 x145 x146 x147 x148 x149 x150 x151 x152 x153 x154 x155 x156 x157 x158 x159 x160 x161 x162 x163 x164 x165 x166 x167 x168 x169 x170 x171 x172 x173 x174 x175 x176 x177 x178 x179 x180 x181 x182 x183 x184 x185 x186 x187 x188 x189 x190 x191 x192 x193 x194 x195 x196 x197 x198 x199 x200 x201 x202 x203 x204 x205 x206 x207 x208 x209 x210 x211 x212 x213 x214 x215 x216 x217 x218 x219 x220 x221 x222 x223 x224 x225 x226 x227 x228 x229 x230 x231 x232 x233 x234 x235 x236 x237 x238 x239 x240 x241 x242 x243 x244 x245 x246 x247 x248 x249 x250 x251 x252 x253 x254 x255 x256 x257 x258 x259 x260 x261 x262 x263 x264 x265 x266 x267 x268 x269 x270 x271 x272 x273 x274 x275 x276 x277 x278 x279 x280 x281 x282 x283 x284 x285 x286 x287 x288 x289 x290 x291 x292 x293 x294 x295 x296 x297 x298 x299 x300 x301 x302 x303 x304 x305 x306 x307 x308 x309 x310 x311 x312 x313 x314 x315 x316 x317 x318 x319 x320 x321 x322 x323 x324 x325 x326 x327 x328 x329
  conv => arg 2; whnf
  have HR := Lib.hid hR
  have HN := Lib.hid hN
  clear hR hN
  obtain ⟨sT, AT, nT, cT, rfl, rfl⟩ := hp.ty.shape
  have hbz := FsOk.base hp.fs
  have hst := hp.st
  have hgd := hp.gl
  have hDl := hp.dl
  have hpll := hp.ll
  have hh2 := hp.h2
  obtain ⟨pz, pf, pn⟩ := hp.z
  have pd := hp.d
  have hB := hp.B
  have wgl : g < wr.heap.size := by omega
  have y0 : wr.cell? ⟨g, r.length * 7, none⟩ = some (.int .i64 3) := (hst.cellAt (r.length * 7) (by omega)).trans (snocAt (j := 0) (f7Cells_len r))
  have y1 : wr.cell? ⟨g, r.length * 7 + 1, none⟩ = some (.string ⟨#[]⟩) := (hst.cellAt (r.length * 7 + 1) (by omega)).trans (snocAt (j := 1) (f7Cells_len r))
  have y2 : wr.cell? ⟨g, r.length * 7 + 2, none⟩ = some (.int .i64 0) := (hst.cellAt (r.length * 7 + 2) (by omega)).trans (snocAt (j := 2) (f7Cells_len r))
  have y3 : wr.cell? ⟨g, r.length * 7 + 3, none⟩ = some (.string sT) := (hst.cellAt (r.length * 7 + 3) (by omega)).trans (snocAt (j := 3) (f7Cells_len r))
  have y4 : wr.cell? ⟨g, r.length * 7 + 4, none⟩ = some (.slice AT nT cT) := (hst.cellAt (r.length * 7 + 4) (by omega)).trans (snocAt (j := 4) (f7Cells_len r))
  have y5 : wr.cell? ⟨g, r.length * 7 + 5, none⟩ = some (.slice (some ⟨h, 0, none⟩) (0 + 1) cap) := (hst.cellAt (r.length * 7 + 5) (by omega)).trans (snocAt (j := 5) (f7Cells_len r))
  have y6 : wr.cell? ⟨g, r.length * 7 + 6, none⟩ = some (.int .i64 0) := (hst.cellAt (r.length * 7 + 6) (by omega)).trans (snocAt (j := 6) (f7Cells_len r))
  have q9 : (r.length : Int) ≤ (cq : Int) := by
    rcases hst.2 with ⟨h2, _⟩ | ⟨b1, c1, cu1, e1, _, q1, hcc, _⟩
    · cases h2
    · simp only [Value.slice.injEq] at e1
      omega
  have q5 : (0 : Int) ≤ (r.length : Int) := by omega
  have q6 : (r.length : Int) < (r.length : Int) + 1 := by omega
  have q10 : (r.length : Int) ≤ (r.length : Int) + 1 := by omega
  obtain ⟨e0, e1, e2, e3, e4, e5, rfl⟩ : ∃ e0 e1 e2 e3 e4 e5, dc = [e0, e1, e2, e3, e4, e5] := ⟨_, _, _, _, _, _, hdc⟩
  have HP := Lib.hid hp
  have HST := Lib.hid hst
  have HB := Lib.hid hB
  clear hst hB
  clear hp
  have pz_0 := cv0 pz
  have pz_1 := cv1 pz
  have pz_2 := cv2 pz
  have pz_3 := cv3 pz
  have pz_4 := cv4 pz
  have pz_5 := cv5 pz
  have pz_f0 := free_heap pz 0
  have pz_f1 := free_heap pz 1
  have pz_f2 := free_heap pz 2
  have pz_f3 := free_heap pz 3
  have pz_f4 := free_heap pz 4
  have pz_f5 := free_heap pz 5
  have pz_l := lt_heap pz
  have PZ := Lib.hid pz
  clear pz
  have pf_0 := cv0 pf
  have pf_1 := cv1 pf
  have pf_f0 := free_heap pf 0
  have pf_f1 := free_heap pf 1
  have pf_l := lt_heap pf
  have PF := Lib.hid pf
  clear pf
  have pn_0 := cv0 pn
  have pn_1 := cv1 pn
  have pn_2 := cv2 pn
  have pn_3 := cv3 pn
  have pn_4 := cv4 pn
  have pn_5 := cv5 pn
  have pn_l := lt_heap pn
  have PN := Lib.hid pn
  clear pn
  have pd_0 := cv0 pd
  have pd_1 := cv1 pd
  have pd_2 := cv2 pd
  have pd_3 := cv3 pd
  have pd_4 := cv4 pd
  have pd_5 := cv5 pd
  have pd_f0 := free_heap pd 0
  have pd_f1 := free_heap pd 1
  have pd_f2 := free_heap pd 2
  have pd_f3 := free_heap pd 3
  have pd_f4 := free_heap pd 4
  have pd_f5 := free_heap pd 5
  have pd_l := lt_heap pd
  have PD := Lib.hid pd
  clear pd
  have hnx : (i : Int) + 1 = ((i + 1 : Nat) : Int) := by omega
  have HNX := Lib.hid hnx
  clear hnx
  by_cases hl2 : i < x.size
  case neg =>
    have q1 : (x.size : Int) ≤ (i : Int) := by omega
    have hch : byteAt x i ≠ 93 := by rw [byteAt_out (by omega)]; decide
    have hr := HR.out hch
    have HR := Lib.hid hr
    have HCH := Lib.hid hch
    clear hr hch
    go_wp2_with fail
    exact HR.out _ _ (id ⟨rfl, rfl, rfl, rfl, trivial⟩) (far2 (by omega) (at6 PZ.out)) (at2 (far6 (by omega) PF.out)) (below2 (below6 HB.out (Nat.le_refl _)) (by omega))
  have q1 : ¬ (x.size : Int) ≤ (i : Int) := by omega
  have hb2 : byteAt x i = (x[i]'hl2).toNat := byteAt_in hl2
  by_cases hc2 : (x[i]'hl2).toNat = 93
  · have q2 : ((((x[i]'hl2).toNat : Nat) : Int) != 93) = false := by rw [hc2]; rfl
    have hch : byteAt x i = 93 := by rw [hb2]; exact hc2
    clear hb2 hc2
    have hx9 := HN.out hch
    have HX9 := Lib.hid hx9
    have HCH := Lib.hid hch
    clear hx9 hch
    go_wp2_with fail
    rw [HNX.out]
    have hfx : ∀ (v0 v1 v2 v3 v4 v5 : Value) b, b ≠ D → ((((((wr.setCell ⟨D, 0, none⟩ v0).setCell ⟨D, 1, none⟩ v1).setCell ⟨D, 2, none⟩ v2).setCell ⟨D, 3, none⟩ v3).setCell ⟨D, 4, none⟩ v4).setCell ⟨D, 5, none⟩ v5).heap[b]? = wr.heap[b]? := fun v0 v1 v2 v3 v4 v5 b hb => far6 hb rfl
    obtain ⟨hst7, how, hty, hfs, ⟨hz1, hz2, hz3⟩, hd, hB', hdl, hgl, hll, hh1, hh2, hh3, hh4⟩ := HP.out
    refine gen_last (fun wx => PopAt w wx r (some ⟨g, 0, none⟩) cq D lo (.abs s v) [.int .i64 3, .string ⟨#[]⟩, .int .i64 0, .string sT, .slice AT nT cT, .slice (some ⟨h, 0, none⟩) (0 + 1) cap]) ?_ (fun wx h9 => by exact HX9.out _ _ wx (id ⟨rfl, rfl, rfl, rfl, rfl, rfl, rfl, rfl, rfl, rfl, trivial⟩) h9)
    refine ⟨⟨?_, ?_, ⟨far6 (by omega) hz1, far6 (by omega) hz2, far6 (by omega) hz3⟩, below6 hB' (by omega)⟩, by omega, lt6 (by omega), at6 PD.out, ?_, fun q e => by have e2 : g = q := Option.some.inj e; omega⟩
    · exact oth6 (i := 0) (by simp only [Value.ownBlock, ne_eq, Option.some.injEq]; omega) (ownsRow_pop (f7Cells_len r) hst7)
    · exact hfs.keep (fun b h1 h2 h3 => hfx _ _ _ _ _ _ b (by omega)) (fun _ _ e => e) (Nat.le_refl _)
    · refine Tm.shut (a := ⟨3, bNil, 0, (Fr.abs s).ty⟩) (l := (Fr.abs s).kids ++ [v.tm]) (show bNil.size ≤ maxLen by decide +kernel) ((hty.keep (fun b hb => hfx _ _ _ _ _ _ b hb.2.2.2.1)).mono (fun b hb => ⟨hb.1, lt6 hb.2.1, hb.2.2.1, hb.2.2.2.1⟩)) ?_
      exact (how.keepS (S' := fun b => lo ≤ b ∧ b < wr.heap.size ∧ some g ≠ some b ∧ b ≠ D) (fun b _ e => hfx _ _ _ _ _ _ b (by have e2 : h = b := Option.some.inj e; omega)) (fun b hb _ => hfx _ _ _ _ _ _ b hb.2.2.2) (fun _ hb => hb)).slS (by simp [Fr.kids, maxLen]) (fun b hb => ⟨hb.1, lt6 hb.2.1, hb.2.2.1, hb.2.2.2⟩) (fun b e => by injection e with e; subst e; exact ⟨hh1, lt6 hh2, hh3, hh4⟩)
  · have q2 : ((((x[i]'hl2).toNat : Nat) : Int) != 93) = true := bne_iff_ne.2 (by omega)
    have hch : byteAt x i ≠ 93 := by rw [hb2]; exact hc2
    clear hb2 hc2
    have hr := HR.out hch
    have HR := Lib.hid hr
    have HCH := Lib.hid hch
    clear hr hch
    go_wp2_with fail
    exact HR.out _ _ (id ⟨rfl, rfl, rfl, rfl, trivial⟩) (far2 (by omega) (at6 PZ.out)) (at2 (far6 (by omega) PF.out)) (below2 (below6 HB.out (Nat.le_refl _)) (by omega))
noncomputable def c_tr_tapp : Code := sub [1, 1, 1, 1, 1, 0, 0, 0, 1, 1, 1, 1, 1, 1, 1, 0, 0, 0, 1, 1, 1, 1] (Tryd.f9.body.getD .skip)
set_option maxRecDepth 1000000 in
theorem open_tr_tapp {P : Act → Prop} {v0 v1 v2 v3 v4 v5 v6 v7 v8 : Value} (h : ∀ x1 x9 x10 x11 x12 x13 x14 x15 x16 x17 x18 x20 x21 x22 x23 x24 x25 x26 x27 x28 x29 x30 x31 x32 x33 x34 x35 x36 x37 x38 x39 x40 x41 x42 x43 x44 x45 x46 x47 x48 x49 x50 x51 x52 x53 x54 x55 x56 x57 x58 x59 x60 x61 x62 x63 x64 x65 x66 x67 x68 x69 x70 x71 x72 x73 x74 x75 x76 x77 x78 x79 x80 x81 x82 x83 x84 x85 x86 x87 x88 x89 x90 x91 x92 x93 x94 x95 x96 x97 x98 x99 x100 x101 x102 x103 x104 x105 x106 x107 x108 x109 x110 x111 x112 x113 x114 x115 x116 x117 x118 x119 x120 x121 x122 x123 x124 x125 x126 x127 x128 x129 x130 x131 x132 x133 x134 x135 x136 x137 x138 x139 x140 x141 x142 x143 x144 x145 x146 x147 x148 x149 x150 x151 x152 x153 x154 x155 x156 x157 x158 x159 x160 x161 x162 x163 x164 x165 x166 x167 x168 x169 x170 x171 x172 x173 x174 x175 x176 x177 x178 x179 x180 x181 x182 x183 x184 x185 x186 x187 x188 x189 x190 x191 x192 x193 x194 x195 x196 x197 x198 x199 x200 x201 x202 x203 x204 x205 x206 x207 x208 x209 x210 x211 x212 x213 x214 x215 x216 x217 x218 x219 x220 x221 x222 x223 x224 x225 x226 x227 x228 x229 x230 x231 x232 x233 x234 x235 x236 x237 x238 x239 x240 x241 x242 x243 x244 x245 x246 x247 x248 x249 x250 x251 x252 x253 x254 x255 x256 x257 x258 x259 x260 x261 x262 x263 x264 x265 x266 x267 x268 x269 x270 x271 x272 x273 x274 x275 x276 x277 x278 x279 x280 x281 x282 x283 x284 x285 x286 x287 x288 x289 x290 x291 x292 x293 x294 x295 x296 x297 x298 x299 x300 x301 x302 x303 x304 x305 x306 x307 x308 x309 x310 x311 x312 x313 x314 x315 x316 x317 x318 x319 x320 x321 x322 x323 x324 x325 x326 x327 x328 x329 : Value, P ⟨(v0 :: x1 :: v1 :: v2 :: v3 :: v4 :: v5 :: v6 :: v7 :: x9 :: x10 :: x11 :: x12 :: x13 :: x14 :: x15 :: x16 :: x17 :: x18 :: v8 :: x20 :: x21 :: x22 :: x23 :: x24 :: x25 :: x26 :: x27 :: x28 :: x29 :: x30 :: x31 :: x32 :: x33 :: x34 :: x35 :: x36 :: x37 :: x38 :: x39 :: x40 :: x41 :: x42 :: x43 :: x44 :: x45 :: x46 :: x47 :: x48 :: x49 :: x50 :: x51 :: x52 :: x53 :: x54 :: x55 :: x56 :: x57 :: x58 :: x59 :: x60 :: x61 :: x62 :: x63 :: x64 :: x65 :: x66 :: x67 :: x68 :: x69 :: x70 :: x71 :: x72 :: x73 :: x74 :: x75 :: x76 :: x77 :: x78 :: x79 :: x80 :: x81 :: x82 :: x83 :: x84 :: x85 :: x86 :: x87 :: x88 :: x89 :: x90 :: x91 :: x92 :: x93 :: x94 :: x95 :: x96 :: x97 :: x98 :: x99 :: x100 :: x101 :: x102 :: x103 :: x104 :: x105 :: x106 :: x107 :: x108 :: x109 :: x110 :: x111 :: x112 :: x113 :: x114 :: x115 :: x116 :: x117 :: x118 :: x119 :: x120 :: x121 :: x122 :: x123 :: x124 :: x125 :: x126 :: x127 :: x128 :: x129 :: x130 :: x131 :: x132 :: x133 :: x134 :: x135 :: x136 :: x137 :: x138 :: x139 :: x140 :: x141 :: x142 :: x143 :: x144 :: x145 :: x146 :: x147 :: x148 :: x149 :: x150 :: x151 :: x152 :: x153 :: x154 :: x155 :: x156 :: x157 :: x158 :: x159 :: x160 :: x161 :: x162 :: x163 :: x164 :: x165 :: x166 :: x167 :: x168 :: x169 :: x170 :: x171 :: x172 :: x173 :: x174 :: x175 :: x176 :: x177 :: x178 :: x179 :: x180 :: x181 :: x182 :: x183 :: x184 :: x185 :: x186 :: x187 :: x188 :: x189 :: x190 :: x191 :: x192 :: x193 :: x194 :: x195 :: x196 :: x197 :: x198 :: x199 :: x200 :: x201 :: x202 :: x203 :: x204 :: x205 :: x206 :: x207 :: x208 :: x209 :: x210 :: x211 :: x212 :: x213 :: x214 :: x215 :: x216 :: x217 :: x218 :: x219 :: x220 :: x221 :: x222 :: x223 :: x224 :: x225 :: x226 :: x227 :: x228 :: x229 :: x230 :: x231 :: x232 :: x233 :: x234 :: x235 :: x236 :: x237 :: x238 :: x239 :: x240 :: x241 :: x242 :: x243 :: x244 :: x245 :: x246 :: x247 :: x248 :: x249 :: x250 :: x251 :: x252 :: x253 :: x254 :: x255 :: x256 :: x257 :: x258 :: x259 :: x260 :: x261 :: x262 :: x263 :: x264 :: x265 :: x266 :: x267 :: x268 :: x269 :: x270 :: x271 :: x272 :: x273 :: x274 :: x275 :: x276 :: x277 :: x278 :: x279 :: x280 :: x281 :: x282 :: x283 :: x284 :: x285 :: x286 :: x287 :: x288 :: x289 :: x290 :: x291 :: x292 :: x293 :: x294 :: x295 :: x296 :: x297 :: x298 :: x299 :: x300 :: x301 :: x302 :: x303 :: x304 :: x305 :: x306 :: x307 :: x308 :: x309 :: x310 :: x311 :: x312 :: x313 :: x314 :: x315 :: x316 :: x317 :: x318 :: x319 :: x320 :: x321 :: x322 :: x323 :: x324 :: x325 :: x326 :: x327 :: x328 :: x329 :: []).toArray, []⟩) : ∀ a, Frm 330 [(0, v0), (2, v1), (3, v2), (4, v3), (5, v4), (6, v5), (7, v6), (8, v7), (19, v8)] a → P a := by
  rintro a ⟨h1, h2, e0, e1, e2, e3, e4, e5, e6, e7, e8, _⟩
  revert e0 e1 e2 e3 e4 e5 e6 e7 e8
  refine frame_tr (P := fun a => a.tmps.toList[0]? = some v0 → a.tmps.toList[2]? = some v1 → a.tmps.toList[3]? = some v2 → a.tmps.toList[4]? = some v3 → a.tmps.toList[5]? = some v4 → a.tmps.toList[6]? = some v5 → a.tmps.toList[7]? = some v6 → a.tmps.toList[8]? = some v7 → a.tmps.toList[19]? = some v8 → P a) ?_ a h1 h2
  intro x0 x1 x2 x3 x4 x5 x6 x7 x8 x9 x10 x11 x12 x13 x14 x15 x16 x17 x18 x19 x20 x21 x22 x23 x24 x25 x26 x27 x28 x29 x30 x31 x32 x33 x34 x35 x36 x37 x38 x39 x40 x41 x42 x43 x44 x45 x46 x47 x48 x49 x50 x51 x52 x53 x54 x55 x56 x57 x58 x59 x60 x61 x62 x63 x64 x65 x66 x67 x68 x69 x70 x71 x72 x73 x74 x75 x76 x77 x78 x79 x80 x81 x82 x83 x84 x85 x86 x87 x88 x89 x90 x91 x92 x93 x94 x95 x96 x97 x98 x99 x100 x101 x102 x103 x104 x105 x106 x107 x108 x109 x110 x111 x112 x113 x114 x115 x116 x117 x118 x119 x120 x121 x122 x123 x124 x125 x126 x127 x128 x129 x130 x131 x132 x133 x134 x135 x136 x137 x138 x139 x140 x141 x142 x143 x144 x145 x146 x147 x148 x149 x150 x151 x152 x153 x154 x155 x156 x157 x158 x159 x160 x161 x162 x163 x164 x165 x166 x167 x168 x169 x170 x171 x172 x173 x174 x175 x176 x177 x178 x179 x180 x181 x182 x183 x184 x185 x186 x187 x188 x189 x190 x191 x192 x193 x194 x195 x196 x197 x198 x199 x200 x201 x202 x203 x204 x205 x206 x207 x208 x209 x210 x211 x212 x213 x214 x215 x216 x217 x218 x219 x220 x221 x222 x223 x224 x225 x226 x227 x228 x229 x230 x231 x232 x233 x234 x235 x236 x237 x238 x239 x240 x241 x242 x243 x244 x245 x246 x247 x248 x249 x250 x251 x252 x253 x254 x255 x256 x257 x258 x259 x260 x261 x262 x263 x264 x265 x266 x267 x268 x269 x270 x271 x272 x273 x274 x275 x276 x277 x278 x279 x280 x281 x282 x283 x284 x285 x286 x287 x288 x289 x290 x291 x292 x293 x294 x295 x296 x297 x298 x299 x300 x301 x302 x303 x304 x305 x306 x307 x308 x309 x310 x311 x312 x313 x314 x315 x316 x317 x318 x319 x320 x321 x322 x323 x324 x325 x326 x327 x328 x329 e0 e1 e2 e3 e4 e5 e6 e7 e8
  obtain rfl : x0 = v0 := Option.some.inj e0
  obtain rfl : x2 = v1 := Option.some.inj e1
  obtain rfl : x3 = v2 := Option.some.inj e2
  obtain rfl : x4 = v3 := Option.some.inj e3
  obtain rfl : x5 = v4 := Option.some.inj e4
  obtain rfl : x6 = v5 := Option.some.inj e5
  obtain rfl : x7 = v6 := Option.some.inj e6
  obtain rfl : x8 = v7 := Option.some.inj e7
  obtain rfl : x19 = v8 := Option.some.inj e8
  exact h x1 x9 x10 x11 x12 x13 x14 x15 x16 x17 x18 x20 x21 x22 x23 x24 x25 x26 x27 x28 x29 x30 x31 x32 x33 x34 x35 x36 x37 x38 x39 x40 x41 x42 x43 x44 x45 x46 x47 x48 x49 x50 x51 x52 x53 x54 x55 x56 x57 x58 x59 x60 x61 x62 x63 x64 x65 x66 x67 x68 x69 x70 x71 x72 x73 x74 x75 x76 x77 x78 x79 x80 x81 x82 x83 x84 x85 x86 x87 x88 x89 x90 x91 x92 x93 x94 x95 x96 x97 x98 x99 x100 x101 x102 x103 x104 x105 x106 x107 x108 x109 x110 x111 x112 x113 x114 x115 x116 x117 x118 x119 x120 x121 x122 x123 x124 x125 x126 x127 x128 x129 x130 x131 x132 x133 x134 x135 x136 x137 x138 x139 x140 x141 x142 x143 x144 x145 x146 x147 x148 x149 x150 x151 x152 x153 x154 x155 x156 x157 x158 x159 x160 x161 x162 x163 x164 x165 x166 x167 x168 x169 x170 x171 x172 x173 x174 x175 x176 x177 x178 x179 x180 x181 x182 x183 x184 x185 x186 x187 x188 x189 x190 x191 x192 x193 x194 x195 x196 x197 x198 x199 x200 x201 x202 x203 x204 x205 x206 x207 x208 x209 x210 x211 x212 x213 x214 x215 x216 x217 x218 x219 x220 x221 x222 x223 x224 x225 x226 x227 x228 x229 x230 x231 x232 x233 x234 x235 x236 x237 x238 x239 x240 x241 x242 x243 x244 x245 x246 x247 x248 x249 x250 x251 x252 x253 x254 x255 x256 x257 x258 x259 x260 x261 x262 x263 x264 x265 x266 x267 x268 x269 x270 x271 x272 x273 x274 x275 x276 x277 x278 x279 x280 x281 x282 x283 x284 x285 x286 x287 x288 x289 x290 x291 x292 x293 x294 x295 x296 x297 x298 x299 x300 x301 x302 x303 x304 x305 x306 x307 x308 x309 x310 x311 x312 x313 x314 x315 x316 x317 x318 x319 x320 x321 x322 x323 x324 x325 x326 x327 x328 x329
set_option maxRecDepth 1000000 in
set_option maxHeartbeats 16000000 in
theorem tr_tapp_wp {Q : Exit → Act → World → Prop} {x : ByteArray} {w wr : World} {i n : Nat} {t0 t1 : Value} {r : List F7} {g cq D lo h cap : Nat} {v : Tv} {dc : List Value} {f0 : Tv} (hx4 : x.size ≤ 4000) (hgW : w.heap.size + 3 ≤ g) (hdc : dc = [dc.getD 0 undef, dc.getD 1 undef, dc.getD 2 undef, dc.getD 3 undef, dc.getD 4 undef, dc.getD 5 undef]) (hp : TopAt w wr (Fr.app1 f0) t0 t1 r g cq D lo h cap v dc 0) (hR : byteAt x i ≠ 41 → ∀ a' w', Frm 330 [(2, .pointer (some ⟨w.heap.size, 0, none⟩)), (3, .pointer (some ⟨w.heap.size + 1, 0, none⟩))] a' → w'.heap[w.heap.size]? = some (.cells #[.int .i64 0, .string ⟨#[]⟩, .int .i64 0, .string ⟨#[]⟩, .slice none 0 0, .slice none 0 0] 27 (0, 0)) → w'.heap[w.heap.size + 1]? = some (.cells #[.int .i64 11, .int .i64 (i : Nat)] 29 (0, 0)) → Below w.heap.size w w' → Q .ret a' w') (hN : byteAt x i = 41 → ∀ dc' a' wx, Frm 330 [(0, .string x), (2, .pointer (some ⟨w.heap.size, 0, none⟩)), (3, .pointer (some ⟨w.heap.size + 1, 0, none⟩)), (4, .slice (some ⟨g, 0, none⟩) r.length cq), (5, .int .i64 (i + 1 : Nat)), (6, .int .i64 (n : Nat)), (7, .pointer (some ⟨w.heap.size + 2, 0, none⟩)), (8, .pointer (some ⟨D, 0, none⟩))] a' → PopAt w wx r (some ⟨g, 0, none⟩) cq D lo (.app f0 v) dc' → Q .normal a' wx) : ∀ ac, Frm 330 [(0, .string x), (2, .pointer (some ⟨w.heap.size, 0, none⟩)), (3, .pointer (some ⟨w.heap.size + 1, 0, none⟩)), (4, .slice (some ⟨g, 0, none⟩) (r.length + 1) cq), (5, .int .i64 (i : Nat)), (6, .int .i64 (n : Nat)), (7, .pointer (some ⟨w.heap.size + 2, 0, none⟩)), (8, .pointer (some ⟨D, 0, none⟩)), (19, .int .i64 (r.length : Nat))] ac → Code.wp Tryd.prog c_tr_tapp Q ac wr := by
  refine open_tr_tapp (P := fun a => Code.wp Tryd.prog c_tr_tapp Q a wr) ?_
  intro x1 x9 x10 x11 x12 x13 x14 x15 x16 x17 x18 x20 x21 x22 x23 x24 x25 x26 x27 x28 x29 x30 x31 x32 x33 x34 x35 x36 x37 x38 x39 x40 x41 x42 x43 x44 x45 x46 x47 x48 x49 x50 x51 x52 x53 x54 x55 x56 x57 x58 x59 x60 x61 x62 x63 x64 x65 x66 x67 x68 x69 x70 x71 x72 x73 x74 x75 x76 x77 x78 x79 x80 x81 x82 x83 x84 x85 x86 x87 x88 x89 x90 x91 x92 x93 x94 x95 x96 x97 x98 x99 x100 x101 x102 x103 x104 x105 x106 x107 x108 x109 x110 x111 x112 x113 x114 x115 x116 x117 x118 x119 x120 x121 x122 x123 x124 x125 x126 x127 x128 x129 x130 x131 x132 x133 x134 x135 x136 x137 x138 x139 x140 x141 x142 x143 x144 x145 x146 x147 x148 x149 x150 x151 x152 x153 x154 x155 x156 x157 x158 x159 x160 x161 x162 x163 x164 x165 x166 x167 x168 x169 x170 x171 x172 x173 x174 x175 x176 x177 x178 x179 x180 x181 x182 x183 x184 x185 x186 x187 x188 x189 x190 x191 x192 x193 x194 x195 x196 x197 x198 x199 x200 x201 x202 x203 x204 x205 x206 x207 x208 x209 x210 x211 x212 x213 x214 x215 x216 x217 x218 x219 x220 x221 x222 x223 x224 x225 x226 x227 x228 x229 x230 x231 x232 x233 x234 x235 x236 x237 x238 x239 x240 x241 x242 x243 x244 x245 x246 x247 x248 x249 x250 x251 x252 x253 x254 x255 x256 x257 x258 x259 x260 x261 x262 x263 x264 x265 x266 x267 x268 x269 x270 x271 x272 x273 x274 x275 x276 x277 x278 x279 x280 x281 x282 x283 x284 x285 x286 x287 x288 x289 x290 x291 x292 x293 x294 x295 x296 x297 x298 x299 x300 x301 x302 x303 x304 x305 x306 x307 x308 x309 x310 x311 x312 x313 x314 x315 x316 x317 x318 x319 x320 x321 x322 x323 x324 x325 x326 x327 x328 x329
  conv => arg 2; whnf
  have HR := Lib.hid hR
  have HN := Lib.hid hN
  clear hR hN
  obtain ⟨sT, AT, nT, cT, rfl, rfl⟩ := hp.ty.shape
  have hbz := FsOk.base hp.fs
  have hst := hp.st
  have hgd := hp.gl
  have hDl := hp.dl
  have hpll := hp.ll
  have hh2 := hp.h2
  obtain ⟨pz, pf, pn⟩ := hp.z
  have pd := hp.d
  have hB := hp.B
  have wgl : g < wr.heap.size := by omega
  have y0 : wr.cell? ⟨g, r.length * 7, none⟩ = some (.int .i64 4) := (hst.cellAt (r.length * 7) (by omega)).trans (snocAt (j := 0) (f7Cells_len r))
  have y1 : wr.cell? ⟨g, r.length * 7 + 1, none⟩ = some (.string ⟨#[]⟩) := (hst.cellAt (r.length * 7 + 1) (by omega)).trans (snocAt (j := 1) (f7Cells_len r))
  have y2 : wr.cell? ⟨g, r.length * 7 + 2, none⟩ = some (.int .i64 0) := (hst.cellAt (r.length * 7 + 2) (by omega)).trans (snocAt (j := 2) (f7Cells_len r))
  have y3 : wr.cell? ⟨g, r.length * 7 + 3, none⟩ = some (.string sT) := (hst.cellAt (r.length * 7 + 3) (by omega)).trans (snocAt (j := 3) (f7Cells_len r))
  have y4 : wr.cell? ⟨g, r.length * 7 + 4, none⟩ = some (.slice AT nT cT) := (hst.cellAt (r.length * 7 + 4) (by omega)).trans (snocAt (j := 4) (f7Cells_len r))
  have y5 : wr.cell? ⟨g, r.length * 7 + 5, none⟩ = some (.slice (some ⟨h, 0, none⟩) (1 + 1) cap) := (hst.cellAt (r.length * 7 + 5) (by omega)).trans (snocAt (j := 5) (f7Cells_len r))
  have y6 : wr.cell? ⟨g, r.length * 7 + 6, none⟩ = some (.int .i64 0) := (hst.cellAt (r.length * 7 + 6) (by omega)).trans (snocAt (j := 6) (f7Cells_len r))
  have q9 : (r.length : Int) ≤ (cq : Int) := by
    rcases hst.2 with ⟨h2, _⟩ | ⟨b1, c1, cu1, e1, _, q1, hcc, _⟩
    · cases h2
    · simp only [Value.slice.injEq] at e1
      omega
  have q5 : (0 : Int) ≤ (r.length : Int) := by omega
  have q6 : (r.length : Int) < (r.length : Int) + 1 := by omega
  have q10 : (r.length : Int) ≤ (r.length : Int) + 1 := by omega
  obtain ⟨e0, e1, e2, e3, e4, e5, rfl⟩ : ∃ e0 e1 e2 e3 e4 e5, dc = [e0, e1, e2, e3, e4, e5] := ⟨_, _, _, _, _, _, hdc⟩
  have HP := Lib.hid hp
  have HST := Lib.hid hst
  have HB := Lib.hid hB
  clear hst hB
  clear hp
  have pz_0 := cv0 pz
  have pz_1 := cv1 pz
  have pz_2 := cv2 pz
  have pz_3 := cv3 pz
  have pz_4 := cv4 pz
  have pz_5 := cv5 pz
  have pz_f0 := free_heap pz 0
  have pz_f1 := free_heap pz 1
  have pz_f2 := free_heap pz 2
  have pz_f3 := free_heap pz 3
  have pz_f4 := free_heap pz 4
  have pz_f5 := free_heap pz 5
  have pz_l := lt_heap pz
  have PZ := Lib.hid pz
  clear pz
  have pf_0 := cv0 pf
  have pf_1 := cv1 pf
  have pf_f0 := free_heap pf 0
  have pf_f1 := free_heap pf 1
  have pf_l := lt_heap pf
  have PF := Lib.hid pf
  clear pf
  have pn_0 := cv0 pn
  have pn_1 := cv1 pn
  have pn_2 := cv2 pn
  have pn_3 := cv3 pn
  have pn_4 := cv4 pn
  have pn_5 := cv5 pn
  have pn_l := lt_heap pn
  have PN := Lib.hid pn
  clear pn
  have pd_0 := cv0 pd
  have pd_1 := cv1 pd
  have pd_2 := cv2 pd
  have pd_3 := cv3 pd
  have pd_4 := cv4 pd
  have pd_5 := cv5 pd
  have pd_f0 := free_heap pd 0
  have pd_f1 := free_heap pd 1
  have pd_f2 := free_heap pd 2
  have pd_f3 := free_heap pd 3
  have pd_f4 := free_heap pd 4
  have pd_f5 := free_heap pd 5
  have pd_l := lt_heap pd
  have PD := Lib.hid pd
  clear pd
  have hnx : (i : Int) + 1 = ((i + 1 : Nat) : Int) := by omega
  have HNX := Lib.hid hnx
  clear hnx
  by_cases hl2 : i < x.size
  case neg =>
    have q1 : (x.size : Int) ≤ (i : Int) := by omega
    have hch : byteAt x i ≠ 41 := by rw [byteAt_out (by omega)]; decide
    have hr := HR.out hch
    have HR := Lib.hid hr
    have HCH := Lib.hid hch
    clear hr hch
    go_wp2_with fail
    exact HR.out _ _ (id ⟨rfl, rfl, rfl, rfl, trivial⟩) (far2 (by omega) (at6 PZ.out)) (at2 (far6 (by omega) PF.out)) (below2 (below6 HB.out (Nat.le_refl _)) (by omega))
  have q1 : ¬ (x.size : Int) ≤ (i : Int) := by omega
  have hb2 : byteAt x i = (x[i]'hl2).toNat := byteAt_in hl2
  by_cases hc2 : (x[i]'hl2).toNat = 41
  · have q2 : ((((x[i]'hl2).toNat : Nat) : Int) != 41) = false := by rw [hc2]; rfl
    have hch : byteAt x i = 41 := by rw [hb2]; exact hc2
    clear hb2 hc2
    have hx9 := HN.out hch
    have HX9 := Lib.hid hx9
    have HCH := Lib.hid hch
    clear hx9 hch
    go_wp2_with fail
    rw [HNX.out]
    have hfx : ∀ (v0 v1 v2 v3 v4 v5 : Value) b, b ≠ D → ((((((wr.setCell ⟨D, 0, none⟩ v0).setCell ⟨D, 1, none⟩ v1).setCell ⟨D, 2, none⟩ v2).setCell ⟨D, 3, none⟩ v3).setCell ⟨D, 4, none⟩ v4).setCell ⟨D, 5, none⟩ v5).heap[b]? = wr.heap[b]? := fun v0 v1 v2 v3 v4 v5 b hb => far6 hb rfl
    obtain ⟨hst7, how, hty, hfs, ⟨hz1, hz2, hz3⟩, hd, hB', hdl, hgl, hll, hh1, hh2, hh3, hh4⟩ := HP.out
    refine gen_last (fun wx => PopAt w wx r (some ⟨g, 0, none⟩) cq D lo (.app f0 v) [.int .i64 4, .string ⟨#[]⟩, .int .i64 0, .string sT, .slice AT nT cT, .slice (some ⟨h, 0, none⟩) (1 + 1) cap]) ?_ (fun wx h9 => by exact HX9.out _ _ wx (id ⟨rfl, rfl, rfl, rfl, rfl, rfl, rfl, rfl, rfl, rfl, trivial⟩) h9)
    refine ⟨⟨?_, ?_, ⟨far6 (by omega) hz1, far6 (by omega) hz2, far6 (by omega) hz3⟩, below6 hB' (by omega)⟩, by omega, lt6 (by omega), at6 PD.out, ?_, fun q e => by have e2 : g = q := Option.some.inj e; omega⟩
    · exact oth6 (i := 0) (by simp only [Value.ownBlock, ne_eq, Option.some.injEq]; omega) (ownsRow_pop (f7Cells_len r) hst7)
    · exact hfs.keep (fun b h1 h2 h3 => hfx _ _ _ _ _ _ b (by omega)) (fun _ _ e => e) (Nat.le_refl _)
    · refine Tm.shut (a := ⟨4, bNil, 0, (Fr.app1 f0).ty⟩) (l := (Fr.app1 f0).kids ++ [v.tm]) (show bNil.size ≤ maxLen by decide +kernel) ((hty.keep (fun b hb => hfx _ _ _ _ _ _ b hb.2.2.2.1)).mono (fun b hb => ⟨hb.1, lt6 hb.2.1, hb.2.2.1, hb.2.2.2.1⟩)) ?_
      exact (how.keepS (S' := fun b => lo ≤ b ∧ b < wr.heap.size ∧ some g ≠ some b ∧ b ≠ D) (fun b _ e => hfx _ _ _ _ _ _ b (by have e2 : h = b := Option.some.inj e; omega)) (fun b hb _ => hfx _ _ _ _ _ _ b hb.2.2.2) (fun _ hb => hb)).slS (by simp [Fr.kids, maxLen]) (fun b hb => ⟨hb.1, lt6 hb.2.1, hb.2.2.1, hb.2.2.2⟩) (fun b e => by injection e with e; subst e; exact ⟨hh1, lt6 hh2, hh3, hh4⟩)
  · have q2 : ((((x[i]'hl2).toNat : Nat) : Int) != 41) = true := bne_iff_ne.2 (by omega)
    have hch : byteAt x i ≠ 41 := by rw [hb2]; exact hc2
    clear hb2 hc2
    have hr := HR.out hch
    have HR := Lib.hid hr
    have HCH := Lib.hid hch
    clear hr hch
    go_wp2_with fail
    exact HR.out _ _ (id ⟨rfl, rfl, rfl, rfl, trivial⟩) (far2 (by omega) (at6 PZ.out)) (at2 (far6 (by omega) PF.out)) (below2 (below6 HB.out (Nat.le_refl _)) (by omega))
noncomputable def c_tr_tap0 : Code := sub [1, 1, 1, 1, 1, 0, 0, 0, 1, 1, 1, 1, 1, 1, 1, 0, 0, 0, 1, 1, 1, 1] (Tryd.f9.body.getD .skip)
set_option maxRecDepth 1000000 in
theorem open_tr_tap0 {P : Act → Prop} {v0 v1 v2 v3 v4 v5 v6 v7 v8 : Value} (h : ∀ x1 x9 x10 x11 x12 x13 x14 x15 x16 x17 x18 x20 x21 x22 x23 x24 x25 x26 x27 x28 x29 x30 x31 x32 x33 x34 x35 x36 x37 x38 x39 x40 x41 x42 x43 x44 x45 x46 x47 x48 x49 x50 x51 x52 x53 x54 x55 x56 x57 x58 x59 x60 x61 x62 x63 x64 x65 x66 x67 x68 x69 x70 x71 x72 x73 x74 x75 x76 x77 x78 x79 x80 x81 x82 x83 x84 x85 x86 x87 x88 x89 x90 x91 x92 x93 x94 x95 x96 x97 x98 x99 x100 x101 x102 x103 x104 x105 x106 x107 x108 x109 x110 x111 x112 x113 x114 x115 x116 x117 x118 x119 x120 x121 x122 x123 x124 x125 x126 x127 x128 x129 x130 x131 x132 x133 x134 x135 x136 x137 x138 x139 x140 x141 x142 x143 x144 x145 x146 x147 x148 x149 x150 x151 x152 x153 x154 x155 x156 x157 x158 x159 x160 x161 x162 x163 x164 x165 x166 x167 x168 x169 x170 x171 x172 x173 x174 x175 x176 x177 x178 x179 x180 x181 x182 x183 x184 x185 x186 x187 x188 x189 x190 x191 x192 x193 x194 x195 x196 x197 x198 x199 x200 x201 x202 x203 x204 x205 x206 x207 x208 x209 x210 x211 x212 x213 x214 x215 x216 x217 x218 x219 x220 x221 x222 x223 x224 x225 x226 x227 x228 x229 x230 x231 x232 x233 x234 x235 x236 x237 x238 x239 x240 x241 x242 x243 x244 x245 x246 x247 x248 x249 x250 x251 x252 x253 x254 x255 x256 x257 x258 x259 x260 x261 x262 x263 x264 x265 x266 x267 x268 x269 x270 x271 x272 x273 x274 x275 x276 x277 x278 x279 x280 x281 x282 x283 x284 x285 x286 x287 x288 x289 x290 x291 x292 x293 x294 x295 x296 x297 x298 x299 x300 x301 x302 x303 x304 x305 x306 x307 x308 x309 x310 x311 x312 x313 x314 x315 x316 x317 x318 x319 x320 x321 x322 x323 x324 x325 x326 x327 x328 x329 : Value, P ⟨(v0 :: x1 :: v1 :: v2 :: v3 :: v4 :: v5 :: v6 :: v7 :: x9 :: x10 :: x11 :: x12 :: x13 :: x14 :: x15 :: x16 :: x17 :: x18 :: v8 :: x20 :: x21 :: x22 :: x23 :: x24 :: x25 :: x26 :: x27 :: x28 :: x29 :: x30 :: x31 :: x32 :: x33 :: x34 :: x35 :: x36 :: x37 :: x38 :: x39 :: x40 :: x41 :: x42 :: x43 :: x44 :: x45 :: x46 :: x47 :: x48 :: x49 :: x50 :: x51 :: x52 :: x53 :: x54 :: x55 :: x56 :: x57 :: x58 :: x59 :: x60 :: x61 :: x62 :: x63 :: x64 :: x65 :: x66 :: x67 :: x68 :: x69 :: x70 :: x71 :: x72 :: x73 :: x74 :: x75 :: x76 :: x77 :: x78 :: x79 :: x80 :: x81 :: x82 :: x83 :: x84 :: x85 :: x86 :: x87 :: x88 :: x89 :: x90 :: x91 :: x92 :: x93 :: x94 :: x95 :: x96 :: x97 :: x98 :: x99 :: x100 :: x101 :: x102 :: x103 :: x104 :: x105 :: x106 :: x107 :: x108 :: x109 :: x110 :: x111 :: x112 :: x113 :: x114 :: x115 :: x116 :: x117 :: x118 :: x119 :: x120 :: x121 :: x122 :: x123 :: x124 :: x125 :: x126 :: x127 :: x128 :: x129 :: x130 :: x131 :: x132 :: x133 :: x134 :: x135 :: x136 :: x137 :: x138 :: x139 :: x140 :: x141 :: x142 :: x143 :: x144 :: x145 :: x146 :: x147 :: x148 :: x149 :: x150 :: x151 :: x152 :: x153 :: x154 :: x155 :: x156 :: x157 :: x158 :: x159 :: x160 :: x161 :: x162 :: x163 :: x164 :: x165 :: x166 :: x167 :: x168 :: x169 :: x170 :: x171 :: x172 :: x173 :: x174 :: x175 :: x176 :: x177 :: x178 :: x179 :: x180 :: x181 :: x182 :: x183 :: x184 :: x185 :: x186 :: x187 :: x188 :: x189 :: x190 :: x191 :: x192 :: x193 :: x194 :: x195 :: x196 :: x197 :: x198 :: x199 :: x200 :: x201 :: x202 :: x203 :: x204 :: x205 :: x206 :: x207 :: x208 :: x209 :: x210 :: x211 :: x212 :: x213 :: x214 :: x215 :: x216 :: x217 :: x218 :: x219 :: x220 :: x221 :: x222 :: x223 :: x224 :: x225 :: x226 :: x227 :: x228 :: x229 :: x230 :: x231 :: x232 :: x233 :: x234 :: x235 :: x236 :: x237 :: x238 :: x239 :: x240 :: x241 :: x242 :: x243 :: x244 :: x245 :: x246 :: x247 :: x248 :: x249 :: x250 :: x251 :: x252 :: x253 :: x254 :: x255 :: x256 :: x257 :: x258 :: x259 :: x260 :: x261 :: x262 :: x263 :: x264 :: x265 :: x266 :: x267 :: x268 :: x269 :: x270 :: x271 :: x272 :: x273 :: x274 :: x275 :: x276 :: x277 :: x278 :: x279 :: x280 :: x281 :: x282 :: x283 :: x284 :: x285 :: x286 :: x287 :: x288 :: x289 :: x290 :: x291 :: x292 :: x293 :: x294 :: x295 :: x296 :: x297 :: x298 :: x299 :: x300 :: x301 :: x302 :: x303 :: x304 :: x305 :: x306 :: x307 :: x308 :: x309 :: x310 :: x311 :: x312 :: x313 :: x314 :: x315 :: x316 :: x317 :: x318 :: x319 :: x320 :: x321 :: x322 :: x323 :: x324 :: x325 :: x326 :: x327 :: x328 :: x329 :: []).toArray, []⟩) : ∀ a, Frm 330 [(0, v0), (2, v1), (3, v2), (4, v3), (5, v4), (6, v5), (7, v6), (8, v7), (19, v8)] a → P a := by
  rintro a ⟨h1, h2, e0, e1, e2, e3, e4, e5, e6, e7, e8, _⟩
  revert e0 e1 e2 e3 e4 e5 e6 e7 e8
  refine frame_tr (P := fun a => a.tmps.toList[0]? = some v0 → a.tmps.toList[2]? = some v1 → a.tmps.toList[3]? = some v2 → a.tmps.toList[4]? = some v3 → a.tmps.toList[5]? = some v4 → a.tmps.toList[6]? = some v5 → a.tmps.toList[7]? = some v6 → a.tmps.toList[8]? = some v7 → a.tmps.toList[19]? = some v8 → P a) ?_ a h1 h2
  intro x0 x1 x2 x3 x4 x5 x6 x7 x8 x9 x10 x11 x12 x13 x14 x15 x16 x17 x18 x19 x20 x21 x22 x23 x24 x25 x26 x27 x28 x29 x30 x31 x32 x33 x34 x35 x36 x37 x38 x39 x40 x41 x42 x43 x44 x45 x46 x47 x48 x49 x50 x51 x52 x53 x54 x55 x56 x57 x58 x59 x60 x61 x62 x63 x64 x65 x66 x67 x68 x69 x70 x71 x72 x73 x74 x75 x76 x77 x78 x79 x80 x81 x82 x83 x84 x85 x86 x87 x88 x89 x90 x91 x92 x93 x94 x95 x96 x97 x98 x99 x100 x101 x102 x103 x104 x105 x106 x107 x108 x109 x110 x111 x112 x113 x114 x115 x116 x117 x118 x119 x120 x121 x122 x123 x124 x125 x126 x127 x128 x129 x130 x131 x132 x133 x134 x135 x136 x137 x138 x139 x140 x141 x142 x143 x144 x145 x146 x147 x148 x149 x150 x151 x152 x153 x154 x155 x156 x157 x158 x159 x160 x161 x162 x163 x164 x165 x166 x167 x168 x169 x170 x171 x172 x173 x174 x175 x176 x177 x178 x179 x180 x181 x182 x183 x184 x185 x186 x187 x188 x189 x190 x191 x192 x193 x194 x195 x196 x197 x198 x199 x200 x201 x202 x203 x204 x205 x206 x207 x208 x209 x210 x211 x212 x213 x214 x215 x216 x217 x218 x219 x220 x221 x222 x223 x224 x225 x226 x227 x228 x229 x230 x231 x232 x233 x234 x235 x236 x237 x238 x239 x240 x241 x242 x243 x244 x245 x246 x247 x248 x249 x250 x251 x252 x253 x254 x255 x256 x257 x258 x259 x260 x261 x262 x263 x264 x265 x266 x267 x268 x269 x270 x271 x272 x273 x274 x275 x276 x277 x278 x279 x280 x281 x282 x283 x284 x285 x286 x287 x288 x289 x290 x291 x292 x293 x294 x295 x296 x297 x298 x299 x300 x301 x302 x303 x304 x305 x306 x307 x308 x309 x310 x311 x312 x313 x314 x315 x316 x317 x318 x319 x320 x321 x322 x323 x324 x325 x326 x327 x328 x329 e0 e1 e2 e3 e4 e5 e6 e7 e8
  obtain rfl : x0 = v0 := Option.some.inj e0
  obtain rfl : x2 = v1 := Option.some.inj e1
  obtain rfl : x3 = v2 := Option.some.inj e2
  obtain rfl : x4 = v3 := Option.some.inj e3
  obtain rfl : x5 = v4 := Option.some.inj e4
  obtain rfl : x6 = v5 := Option.some.inj e5
  obtain rfl : x7 = v6 := Option.some.inj e6
  obtain rfl : x8 = v7 := Option.some.inj e7
  obtain rfl : x19 = v8 := Option.some.inj e8
  exact h x1 x9 x10 x11 x12 x13 x14 x15 x16 x17 x18 x20 x21 x22 x23 x24 x25 x26 x27 x28 x29 x30 x31 x32 x33 x34 x35 x36 x37 x38 x39 x40 x41 x42 x43 x44 x45 x46 x47 x48 x49 x50 x51 x52 x53 x54 x55 x56 x57 x58 x59 x60 x61 x62 x63 x64 x65 x66 x67 x68 x69 x70 x71 x72 x73 x74 x75 x76 x77 x78 x79 x80 x81 x82 x83 x84 x85 x86 x87 x88 x89 x90 x91 x92 x93 x94 x95 x96 x97 x98 x99 x100 x101 x102 x103 x104 x105 x106 x107 x108 x109 x110 x111 x112 x113 x114 x115 x116 x117 x118 x119 x120 x121 x122 x123 x124 x125 x126 x127 x128 x129 x130 x131 x132 x133 x134 x135 x136 x137 x138 x139 x140 x141 x142 x143 x144 x145 x146 x147 x148 x149 x150 x151 x152 x153 x154 x155 x156 x157 x158 x159 x160 x161 x162 x163 x164 x165 x166 x167 x168 x169 x170 x171 x172 x173 x174 x175 x176 x177 x178 x179 x180 x181 x182 x183 x184 x185 x186 x187 x188 x189 x190 x191 x192 x193 x194 x195 x196 x197 x198 x199 x200 x201 x202 x203 x204 x205 x206 x207 x208 x209 x210 x211 x212 x213 x214 x215 x216 x217 x218 x219 x220 x221 x222 x223 x224 x225 x226 x227 x228 x229 x230 x231 x232 x233 x234 x235 x236 x237 x238 x239 x240 x241 x242 x243 x244 x245 x246 x247 x248 x249 x250 x251 x252 x253 x254 x255 x256 x257 x258 x259 x260 x261 x262 x263 x264 x265 x266 x267 x268 x269 x270 x271 x272 x273 x274 x275 x276 x277 x278 x279 x280 x281 x282 x283 x284 x285 x286 x287 x288 x289 x290 x291 x292 x293 x294 x295 x296 x297 x298 x299 x300 x301 x302 x303 x304 x305 x306 x307 x308 x309 x310 x311 x312 x313 x314 x315 x316 x317 x318 x319 x320 x321 x322 x323 x324 x325 x326 x327 x328 x329
set_option maxRecDepth 1000000 in
set_option maxHeartbeats 16000000 in
theorem tr_tap0_wp {Q : Exit → Act → World → Prop} {x : ByteArray} {w wr : World} {i n : Nat} {t0 t1 : Value} {r : List F7} {g cq D lo h cap : Nat} {v : Tv} {dc : List Value} (hx4 : x.size ≤ 4000) (hgW : w.heap.size + 3 ≤ g) (hdc : dc = [dc.getD 0 undef, dc.getD 1 undef, dc.getD 2 undef, dc.getD 3 undef, dc.getD 4 undef, dc.getD 5 undef]) (hp : TopAt w wr Fr.app0 t0 t1 r g cq D lo h cap v dc 1) (hR : byteAt x i ≠ 32 → ∀ a' w', Frm 330 [(2, .pointer (some ⟨w.heap.size, 0, none⟩)), (3, .pointer (some ⟨w.heap.size + 1, 0, none⟩))] a' → w'.heap[w.heap.size]? = some (.cells #[.int .i64 0, .string ⟨#[]⟩, .int .i64 0, .string ⟨#[]⟩, .slice none 0 0, .slice none 0 0] 27 (0, 0)) → w'.heap[w.heap.size + 1]? = some (.cells #[.int .i64 11, .int .i64 (i : Nat)] 29 (0, 0)) → Below w.heap.size w w' → Q .ret a' w') (hN : byteAt x i = 32 → ∀ a', Frm 330 [(0, .string x), (2, .pointer (some ⟨w.heap.size, 0, none⟩)), (3, .pointer (some ⟨w.heap.size + 1, 0, none⟩)), (4, .slice (some ⟨g, 0, none⟩) (r.length + 1) cq), (5, .int .i64 (i + 1 : Nat)), (6, .int .i64 (n : Nat)), (7, .pointer (some ⟨w.heap.size + 2, 0, none⟩))] a' → Q (.exit 6) a' wr) : ∀ ac, Frm 330 [(0, .string x), (2, .pointer (some ⟨w.heap.size, 0, none⟩)), (3, .pointer (some ⟨w.heap.size + 1, 0, none⟩)), (4, .slice (some ⟨g, 0, none⟩) (r.length + 1) cq), (5, .int .i64 (i : Nat)), (6, .int .i64 (n : Nat)), (7, .pointer (some ⟨w.heap.size + 2, 0, none⟩)), (8, .pointer (some ⟨D, 0, none⟩)), (19, .int .i64 (r.length : Nat))] ac → Code.wp Tryd.prog c_tr_tap0 Q ac wr := by
  refine open_tr_tap0 (P := fun a => Code.wp Tryd.prog c_tr_tap0 Q a wr) ?_
  intro x1 x9 x10 x11 x12 x13 x14 x15 x16 x17 x18 x20 x21 x22 x23 x24 x25 x26 x27 x28 x29 x30 x31 x32 x33 x34 x35 x36 x37 x38 x39 x40 x41 x42 x43 x44 x45 x46 x47 x48 x49 x50 x51 x52 x53 x54 x55 x56 x57 x58 x59 x60 x61 x62 x63 x64 x65 x66 x67 x68 x69 x70 x71 x72 x73 x74 x75 x76 x77 x78 x79 x80 x81 x82 x83 x84 x85 x86 x87 x88 x89 x90 x91 x92 x93 x94 x95 x96 x97 x98 x99 x100 x101 x102 x103 x104 x105 x106 x107 x108 x109 x110 x111 x112 x113 x114 x115 x116 x117 x118 x119 x120 x121 x122 x123 x124 x125 x126 x127 x128 x129 x130 x131 x132 x133 x134 x135 x136 x137 x138 x139 x140 x141 x142 x143 x144 x145 x146 x147 x148 x149 x150 x151 x152 x153 x154 x155 x156 x157 x158 x159 x160 x161 x162 x163 x164 x165 x166 x167 x168 x169 x170 x171 x172 x173 x174 x175 x176 x177 x178 x179 x180 x181 x182 x183 x184 x185 x186 x187 x188 x189 x190 x191 x192 x193 x194 x195 x196 x197 x198 x199 x200 x201 x202 x203 x204 x205 x206 x207 x208 x209 x210 x211 x212 x213 x214 x215 x216 x217 x218 x219 x220 x221 x222 x223 x224 x225 x226 x227 x228 x229 x230 x231 x232 x233 x234 x235 x236 x237 x238 x239 x240 x241 x242 x243 x244 x245 x246 x247 x248 x249 x250 x251 x252 x253 x254 x255 x256 x257 x258 x259 x260 x261 x262 x263 x264 x265 x266 x267 x268 x269 x270 x271 x272 x273 x274 x275 x276 x277 x278 x279 x280 x281 x282 x283 x284 x285 x286 x287 x288 x289 x290 x291 x292 x293 x294 x295 x296 x297 x298 x299 x300 x301 x302 x303 x304 x305 x306 x307 x308 x309 x310 x311 x312 x313 x314 x315 x316 x317 x318 x319 x320 x321 x322 x323 x324 x325 x326 x327 x328 x329
  conv => arg 2; whnf
  have HR := Lib.hid hR
  have HN := Lib.hid hN
  clear hR hN
  obtain ⟨sT, AT, nT, cT, rfl, rfl⟩ := hp.ty.shape
  have hbz := FsOk.base hp.fs
  have hst := hp.st
  have hgd := hp.gl
  have hDl := hp.dl
  have hpll := hp.ll
  have hh2 := hp.h2
  obtain ⟨pz, pf, pn⟩ := hp.z
  have pd := hp.d
  have hB := hp.B
  have wgl : g < wr.heap.size := by omega
  have y0 : wr.cell? ⟨g, r.length * 7, none⟩ = some (.int .i64 4) := (hst.cellAt (r.length * 7) (by omega)).trans (snocAt (j := 0) (f7Cells_len r))
  have y1 : wr.cell? ⟨g, r.length * 7 + 1, none⟩ = some (.string ⟨#[]⟩) := (hst.cellAt (r.length * 7 + 1) (by omega)).trans (snocAt (j := 1) (f7Cells_len r))
  have y2 : wr.cell? ⟨g, r.length * 7 + 2, none⟩ = some (.int .i64 0) := (hst.cellAt (r.length * 7 + 2) (by omega)).trans (snocAt (j := 2) (f7Cells_len r))
  have y3 : wr.cell? ⟨g, r.length * 7 + 3, none⟩ = some (.string sT) := (hst.cellAt (r.length * 7 + 3) (by omega)).trans (snocAt (j := 3) (f7Cells_len r))
  have y4 : wr.cell? ⟨g, r.length * 7 + 4, none⟩ = some (.slice AT nT cT) := (hst.cellAt (r.length * 7 + 4) (by omega)).trans (snocAt (j := 4) (f7Cells_len r))
  have y5 : wr.cell? ⟨g, r.length * 7 + 5, none⟩ = some (.slice (some ⟨h, 0, none⟩) (0 + 1) cap) := (hst.cellAt (r.length * 7 + 5) (by omega)).trans (snocAt (j := 5) (f7Cells_len r))
  have y6 : wr.cell? ⟨g, r.length * 7 + 6, none⟩ = some (.int .i64 1) := (hst.cellAt (r.length * 7 + 6) (by omega)).trans (snocAt (j := 6) (f7Cells_len r))
  have q9 : (r.length : Int) ≤ (cq : Int) := by
    rcases hst.2 with ⟨h2, _⟩ | ⟨b1, c1, cu1, e1, _, q1, hcc, _⟩
    · cases h2
    · simp only [Value.slice.injEq] at e1
      omega
  have q5 : (0 : Int) ≤ (r.length : Int) := by omega
  have q6 : (r.length : Int) < (r.length : Int) + 1 := by omega
  have q10 : (r.length : Int) ≤ (r.length : Int) + 1 := by omega
  obtain ⟨e0, e1, e2, e3, e4, e5, rfl⟩ : ∃ e0 e1 e2 e3 e4 e5, dc = [e0, e1, e2, e3, e4, e5] := ⟨_, _, _, _, _, _, hdc⟩
  have HP := Lib.hid hp
  have HST := Lib.hid hst
  have HB := Lib.hid hB
  clear hst hB
  clear hp
  have pz_0 := cv0 pz
  have pz_1 := cv1 pz
  have pz_2 := cv2 pz
  have pz_3 := cv3 pz
  have pz_4 := cv4 pz
  have pz_5 := cv5 pz
  have pz_f0 := free_heap pz 0
  have pz_f1 := free_heap pz 1
  have pz_f2 := free_heap pz 2
  have pz_f3 := free_heap pz 3
  have pz_f4 := free_heap pz 4
  have pz_f5 := free_heap pz 5
  have pz_l := lt_heap pz
  have PZ := Lib.hid pz
  clear pz
  have pf_0 := cv0 pf
  have pf_1 := cv1 pf
  have pf_f0 := free_heap pf 0
  have pf_f1 := free_heap pf 1
  have pf_l := lt_heap pf
  have PF := Lib.hid pf
  clear pf
  have pn_0 := cv0 pn
  have pn_1 := cv1 pn
  have pn_2 := cv2 pn
  have pn_3 := cv3 pn
  have pn_4 := cv4 pn
  have pn_5 := cv5 pn
  have pn_l := lt_heap pn
  have PN := Lib.hid pn
  clear pn
  have pd_0 := cv0 pd
  have pd_1 := cv1 pd
  have pd_2 := cv2 pd
  have pd_3 := cv3 pd
  have pd_4 := cv4 pd
  have pd_5 := cv5 pd
  have pd_f0 := free_heap pd 0
  have pd_f1 := free_heap pd 1
  have pd_f2 := free_heap pd 2
  have pd_f3 := free_heap pd 3
  have pd_f4 := free_heap pd 4
  have pd_f5 := free_heap pd 5
  have pd_l := lt_heap pd
  have PD := Lib.hid pd
  clear pd
  have hnx : (i : Int) + 1 = ((i + 1 : Nat) : Int) := by omega
  have HNX := Lib.hid hnx
  clear hnx
  by_cases hl2 : i < x.size
  case neg =>
    have q1 : (x.size : Int) ≤ (i : Int) := by omega
    have hch : byteAt x i ≠ 32 := by rw [byteAt_out (by omega)]; decide
    have hr := HR.out hch
    have HR := Lib.hid hr
    have HCH := Lib.hid hch
    clear hr hch
    go_wp2_with fail
    exact HR.out _ _ (id ⟨rfl, rfl, rfl, rfl, trivial⟩) (far2 (by omega) (at6 PZ.out)) (at2 (far6 (by omega) PF.out)) (below2 (below6 HB.out (Nat.le_refl _)) (by omega))
  have q1 : ¬ (x.size : Int) ≤ (i : Int) := by omega
  have hb2 : byteAt x i = (x[i]'hl2).toNat := byteAt_in hl2
  by_cases hc2 : (x[i]'hl2).toNat = 32
  · have q2 : ((((x[i]'hl2).toNat : Nat) : Int) != 32) = false := by rw [hc2]; rfl
    have hch : byteAt x i = 32 := by rw [hb2]; exact hc2
    clear hb2 hc2
    have hx9 := HN.out hch
    have HX9 := Lib.hid hx9
    have HCH := Lib.hid hch
    clear hx9 hch
    go_wp2_with fail
    rw [HNX.out]
    exact HX9.out _ (id ⟨rfl, rfl, rfl, rfl, rfl, rfl, rfl, rfl, rfl, trivial⟩)
  · have q2 : ((((x[i]'hl2).toNat : Nat) : Int) != 32) = true := bne_iff_ne.2 (by omega)
    have hch : byteAt x i ≠ 32 := by rw [hb2]; exact hc2
    clear hb2 hc2
    have hr := HR.out hch
    have HR := Lib.hid hr
    have HCH := Lib.hid hch
    clear hr hch
    go_wp2_with fail
    exact HR.out _ _ (id ⟨rfl, rfl, rfl, rfl, trivial⟩) (far2 (by omega) (at6 PZ.out)) (at2 (far6 (by omega) PF.out)) (below2 (below6 HB.out (Nat.le_refl _)) (by omega))
end

section
open Go Go.RowKit
set_option linter.unusedSimpArgs false
set_option linter.unusedVariables false

noncomputable def c_tr_r51 : Code := sub [1, 1, 1, 1, 1, 0, 0, 0, 1, 1, 1, 1, 1, 1, 1, 0, 0, 0, 1, 1, 0] (Tryd.f9.body.getD .skip)
set_option maxRecDepth 1000000 in
theorem open_tr_r51 {P : Act → Prop} {v0 v1 v2 v3 v4 v5 v6 v7 v8 : Value} (h : ∀ x1 x9 x10 x11 x12 x13 x14 x15 x16 x17 x18 x20 x21 x22 x23 x24 x25 x26 x27 x28 x29 x30 x31 x32 x33 x34 x35 x36 x37 x38 x39 x40 x41 x42 x43 x44 x45 x46 x47 x48 x49 x50 x51 x52 x53 x54 x55 x56 x57 x58 x59 x60 x61 x62 x63 x64 x65 x66 x67 x68 x69 x70 x71 x72 x73 x74 x75 x76 x77 x78 x79 x80 x81 x82 x83 x84 x85 x86 x87 x88 x89 x90 x91 x92 x93 x94 x95 x96 x97 x98 x99 x100 x101 x102 x103 x104 x105 x106 x107 x108 x109 x110 x111 x112 x113 x114 x115 x116 x117 x118 x119 x120 x121 x122 x123 x124 x125 x126 x127 x128 x129 x130 x131 x132 x133 x134 x135 x136 x137 x138 x139 x140 x141 x142 x143 x144 x145 x146 x147 x148 x149 x150 x151 x152 x153 x154 x155 x156 x157 x158 x159 x160 x161 x162 x163 x164 x165 x166 x167 x168 x169 x170 x171 x172 x173 x174 x175 x176 x177 x178 x179 x180 x181 x182 x183 x184 x185 x186 x187 x188 x189 x190 x191 x192 x193 x194 x195 x196 x197 x198 x199 x200 x201 x202 x203 x204 x205 x206 x207 x208 x209 x210 x211 x212 x213 x214 x215 x216 x217 x218 x219 x220 x221 x222 x223 x224 x225 x226 x227 x228 x229 x230 x231 x232 x233 x234 x235 x236 x237 x238 x239 x240 x241 x242 x243 x244 x245 x246 x247 x248 x249 x250 x251 x252 x253 x254 x255 x256 x257 x258 x259 x260 x261 x262 x263 x264 x265 x266 x267 x268 x269 x270 x271 x272 x273 x274 x275 x276 x277 x278 x279 x280 x281 x282 x283 x284 x285 x286 x287 x288 x289 x290 x291 x292 x293 x294 x295 x296 x297 x298 x299 x300 x301 x302 x303 x304 x305 x306 x307 x308 x309 x310 x311 x312 x313 x314 x315 x316 x317 x318 x319 x320 x321 x322 x323 x324 x325 x326 x327 x328 x329 : Value, P ⟨(v0 :: x1 :: v1 :: v2 :: v3 :: v4 :: v5 :: v6 :: v7 :: x9 :: x10 :: x11 :: x12 :: x13 :: x14 :: x15 :: x16 :: x17 :: x18 :: v8 :: x20 :: x21 :: x22 :: x23 :: x24 :: x25 :: x26 :: x27 :: x28 :: x29 :: x30 :: x31 :: x32 :: x33 :: x34 :: x35 :: x36 :: x37 :: x38 :: x39 :: x40 :: x41 :: x42 :: x43 :: x44 :: x45 :: x46 :: x47 :: x48 :: x49 :: x50 :: x51 :: x52 :: x53 :: x54 :: x55 :: x56 :: x57 :: x58 :: x59 :: x60 :: x61 :: x62 :: x63 :: x64 :: x65 :: x66 :: x67 :: x68 :: x69 :: x70 :: x71 :: x72 :: x73 :: x74 :: x75 :: x76 :: x77 :: x78 :: x79 :: x80 :: x81 :: x82 :: x83 :: x84 :: x85 :: x86 :: x87 :: x88 :: x89 :: x90 :: x91 :: x92 :: x93 :: x94 :: x95 :: x96 :: x97 :: x98 :: x99 :: x100 :: x101 :: x102 :: x103 :: x104 :: x105 :: x106 :: x107 :: x108 :: x109 :: x110 :: x111 :: x112 :: x113 :: x114 :: x115 :: x116 :: x117 :: x118 :: x119 :: x120 :: x121 :: x122 :: x123 :: x124 :: x125 :: x126 :: x127 :: x128 :: x129 :: x130 :: x131 :: x132 :: x133 :: x134 :: x135 :: x136 :: x137 :: x138 :: x139 :: x140 :: x141 :: x142 :: x143 :: x144 :: x145 :: x146 :: x147 :: x148 :: x149 :: x150 :: x151 :: x152 :: x153 :: x154 :: x155 :: x156 :: x157 :: x158 :: x159 :: x160 :: x161 :: x162 :: x163 :: x164 :: x165 :: x166 :: x167 :: x168 :: x169 :: x170 :: x171 :: x172 :: x173 :: x174 :: x175 :: x176 :: x177 :: x178 :: x179 :: x180 :: x181 :: x182 :: x183 :: x184 :: x185 :: x186 :: x187 :: x188 :: x189 :: x190 :: x191 :: x192 :: x193 :: x194 :: x195 :: x196 :: x197 :: x198 :: x199 :: x200 :: x201 :: x202 :: x203 :: x204 :: x205 :: x206 :: x207 :: x208 :: x209 :: x210 :: x211 :: x212 :: x213 :: x214 :: x215 :: x216 :: x217 :: x218 :: x219 :: x220 :: x221 :: x222 :: x223 :: x224 :: x225 :: x226 :: x227 :: x228 :: x229 :: x230 :: x231 :: x232 :: x233 :: x234 :: x235 :: x236 :: x237 :: x238 :: x239 :: x240 :: x241 :: x242 :: x243 :: x244 :: x245 :: x246 :: x247 :: x248 :: x249 :: x250 :: x251 :: x252 :: x253 :: x254 :: x255 :: x256 :: x257 :: x258 :: x259 :: x260 :: x261 :: x262 :: x263 :: x264 :: x265 :: x266 :: x267 :: x268 :: x269 :: x270 :: x271 :: x272 :: x273 :: x274 :: x275 :: x276 :: x277 :: x278 :: x279 :: x280 :: x281 :: x282 :: x283 :: x284 :: x285 :: x286 :: x287 :: x288 :: x289 :: x290 :: x291 :: x292 :: x293 :: x294 :: x295 :: x296 :: x297 :: x298 :: x299 :: x300 :: x301 :: x302 :: x303 :: x304 :: x305 :: x306 :: x307 :: x308 :: x309 :: x310 :: x311 :: x312 :: x313 :: x314 :: x315 :: x316 :: x317 :: x318 :: x319 :: x320 :: x321 :: x322 :: x323 :: x324 :: x325 :: x326 :: x327 :: x328 :: x329 :: []).toArray, []⟩) : ∀ a, Frm 330 [(0, v0), (2, v1), (3, v2), (4, v3), (5, v4), (6, v5), (7, v6), (8, v7), (19, v8)] a → P a := by
  rintro a ⟨h1, h2, e0, e1, e2, e3, e4, e5, e6, e7, e8, _⟩
  revert e0 e1 e2 e3 e4 e5 e6 e7 e8
  refine frame_tr (P := fun a => a.tmps.toList[0]? = some v0 → a.tmps.toList[2]? = some v1 → a.tmps.toList[3]? = some v2 → a.tmps.toList[4]? = some v3 → a.tmps.toList[5]? = some v4 → a.tmps.toList[6]? = some v5 → a.tmps.toList[7]? = some v6 → a.tmps.toList[8]? = some v7 → a.tmps.toList[19]? = some v8 → P a) ?_ a h1 h2
  intro x0 x1 x2 x3 x4 x5 x6 x7 x8 x9 x10 x11 x12 x13 x14 x15 x16 x17 x18 x19 x20 x21 x22 x23 x24 x25 x26 x27 x28 x29 x30 x31 x32 x33 x34 x35 x36 x37 x38 x39 x40 x41 x42 x43 x44 x45 x46 x47 x48 x49 x50 x51 x52 x53 x54 x55 x56 x57 x58 x59 x60 x61 x62 x63 x64 x65 x66 x67 x68 x69 x70 x71 x72 x73 x74 x75 x76 x77 x78 x79 x80 x81 x82 x83 x84 x85 x86 x87 x88 x89 x90 x91 x92 x93 x94 x95 x96 x97 x98 x99 x100 x101 x102 x103 x104 x105 x106 x107 x108 x109 x110 x111 x112 x113 x114 x115 x116 x117 x118 x119 x120 x121 x122 x123 x124 x125 x126 x127 x128 x129 x130 x131 x132 x133 x134 x135 x136 x137 x138 x139 x140 x141 x142 x143 x144 x145 x146 x147 x148 x149 x150 x151 x152 x153 x154 x155 x156 x157 x158 x159 x160 x161 x162 x163 x164 x165 x166 x167 x168 x169 x170 x171 x172 x173 x174 x175 x176 x177 x178 x179 x180 x181 x182 x183 x184 x185 x186 x187 x188 x189 x190 x191 x192 x193 x194 x195 x196 x197 x198 x199 x200 x201 x202 x203 x204 x205 x206 x207 x208 x209 x210 x211 x212 x213 x214 x215 x216 x217 x218 x219 x220 x221 x222 x223 x224 x225 x226 x227 x228 x229 x230 x231 x232 x233 x234 x235 x236 x237 x238 x239 x240 x241 x242 x243 x244 x245 x246 x247 x248 x249 x250 x251 x252 x253 x254 x255 x256 x257 x258 x259 x260 x261 x262 x263 x264 x265 x266 x267 x268 x269 x270 x271 x272 x273 x274 x275 x276 x277 x278 x279 x280 x281 x282 x283 x284 x285 x286 x287 x288 x289 x290 x291 x292 x293 x294 x295 x296 x297 x298 x299 x300 x301 x302 x303 x304 x305 x306 x307 x308 x309 x310 x311 x312 x313 x314 x315 x316 x317 x318 x319 x320 x321 x322 x323 x324 x325 x326 x327 x328 x329 e0 e1 e2 e3 e4 e5 e6 e7 e8
  obtain rfl : x0 = v0 := Option.some.inj e0
  obtain rfl : x2 = v1 := Option.some.inj e1
  obtain rfl : x3 = v2 := Option.some.inj e2
  obtain rfl : x4 = v3 := Option.some.inj e3
  obtain rfl : x5 = v4 := Option.some.inj e4
  obtain rfl : x6 = v5 := Option.some.inj e5
  obtain rfl : x7 = v6 := Option.some.inj e6
  obtain rfl : x8 = v7 := Option.some.inj e7
  obtain rfl : x19 = v8 := Option.some.inj e8
  exact h x1 x9 x10 x11 x12 x13 x14 x15 x16 x17 x18 x20 x21 x22 x23 x24 x25 x26 x27 x28 x29 x30 x31 x32 x33 x34 x35 x36 x37 x38 x39 x40 x41 x42 x43 x44 x45 x46 x47 x48 x49 x50 x51 x52 x53 x54 x55 x56 x57 x58 x59 x60 x61 x62 x63 x64 x65 x66 x67 x68 x69 x70 x71 x72 x73 x74 x75 x76 x77 x78 x79 x80 x81 x82 x83 x84 x85 x86 x87 x88 x89 x90 x91 x92 x93 x94 x95 x96 x97 x98 x99 x100 x101 x102 x103 x104 x105 x106 x107 x108 x109 x110 x111 x112 x113 x114 x115 x116 x117 x118 x119 x120 x121 x122 x123 x124 x125 x126 x127 x128 x129 x130 x131 x132 x133 x134 x135 x136 x137 x138 x139 x140 x141 x142 x143 x144 x145 x146 x147 x148 x149 x150 x151 x152 x153 x154 x155 x156 x157 x158 x159 x160 x161 x162 x163 x164 x165 x166 x167 x168 x169 x170 x171 x172 x173 x174 x175 x176 x177 x178 x179 x180 x181 x182 x183 x184 x185 x186 x187 x188 x189 x190 x191 x192 x193 x194 x195 x196 x197 x198 x199 x200 x201 x202 x203 x204 x205 x206 x207 x208 x209 x210 x211 x212 x213 x214 x215 x216 x217 x218 x219 x220 x221 x222 x223 x224 x225 x226 x227 x228 x229 x230 x231 x232 x233 x234 x235 x236 x237 x238 x239 x240 x241 x242 x243 x244 x245 x246 x247 x248 x249 x250 x251 x252 x253 x254 x255 x256 x257 x258 x259 x260 x261 x262 x263 x264 x265 x266 x267 x268 x269 x270 x271 x272 x273 x274 x275 x276 x277 x278 x279 x280 x281 x282 x283 x284 x285 x286 x287 x288 x289 x290 x291 x292 x293 x294 x295 x296 x297 x298 x299 x300 x301 x302 x303 x304 x305 x306 x307 x308 x309 x310 x311 x312 x313 x314 x315 x316 x317 x318 x319 x320 x321 x322 x323 x324 x325 x326 x327 x328 x329
set_option maxRecDepth 1000000 in
set_option maxHeartbeats 16000000 in
theorem tr_r51_wp {K : Act → World → Prop} {x : ByteArray} {w wr : World} {i n : Nat} {D hi : Nat} {v : Tv} {dc : List Value} {Aq : Option Addr} {cq : Nat} {f : Fr} {t0 t1 pa : Value} {r : List F7} (hl : r.length ≤ 100) (hp : PopAt w wr (⟨f, t0, t1, pa⟩ :: r) Aq cq D hi v dc) (hN : ∀ (g lo h cap : Nat) (dc : List Value) a' wx, Aq = some ⟨g, 0, none⟩ → w.heap.size + 3 ≤ g → dc = [dc.getD 0 undef, dc.getD 1 undef, dc.getD 2 undef, dc.getD 3 undef, dc.getD 4 undef, dc.getD 5 undef] → Frm 330 [(0, .string x), (2, .pointer (some ⟨w.heap.size, 0, none⟩)), (3, .pointer (some ⟨w.heap.size + 1, 0, none⟩)), (4, .slice Aq (r.length + 1) cq), (5, .int .i64 (i : Nat)), (6, .int .i64 (n : Nat)), (7, .pointer (some ⟨w.heap.size + 2, 0, none⟩)), (8, .pointer (some ⟨D, 0, none⟩)), (19, .int .i64 (r.length : Nat))] a' → TopAt w wx f t0 t1 r g cq D lo h cap v dc f.want → K a' wx) : ∀ ac, Frm 330 [(0, .string x), (2, .pointer (some ⟨w.heap.size, 0, none⟩)), (3, .pointer (some ⟨w.heap.size + 1, 0, none⟩)), (4, .slice Aq (r.length + 1) cq), (5, .int .i64 (i : Nat)), (6, .int .i64 (n : Nat)), (7, .pointer (some ⟨w.heap.size + 2, 0, none⟩)), (8, .pointer (some ⟨D, 0, none⟩)), (19, .int .i64 (r.length : Nat))] ac → Code.wp Tryd.prog c_tr_r51 (Exit.then K (fun _ _ _ => False)) ac wr := by
  refine open_tr_r51 (P := fun a => Code.wp Tryd.prog c_tr_r51 (Exit.then K (fun _ _ _ => False)) a wr) ?_
  intro x1 x9 x10 x11 x12 x13 x14 x15 x16 x17 x18 x20 x21 x22 x23 x24 x25 x26 x27 x28 x29 x30 x31 x32 x33 x34 x35 x36 x37 x38 x39 x40 x41 x42 x43 x44 x45 x46 x47 x48 x49 x50 x51 x52 x53 x54 x55 x56 x57 x58 x59 x60 x61 x62 x63 x64 x65 x66 x67 x68 x69 x70 x71 x72 x73 x74 x75 x76 x77 x78 x79 x80 x81 x82 x83 x84 x85 x86 x87 x88 x89 x90 x91 x92 x93 x94 x95 x96 x97 x98 x99 x100 x101 x102 x103 x104 x105 x106 x107 x108 x109 x110 x111 x112 x113 x114 x115 x116 x117 x118 x119 x120 x121 x122 x123 x124 x125 x126 x127 x128 x129 x130 x131 x132 x133 x134 x135 x136 x137 x138 x139 x140 x141 x142 x143 x144 x145 x146 x147 x148 x149 x150 x151 x152 x153 x154 x155 x156 x157 x158 x159 x160 x161 x162 x163 x164 x165 x166 x167 x168 x169 x170 x171 x172 x173 x174 x175 x176 x177 x178 x179 x180 x181 x182 x183 x184 x185 x186 x187 x188 x189 x190 x191 x192 x193 x194 x195 x196 x197 x198 x199 x200 x201 x202 x203 x204 x205 x206 x207 x208 x209 x210 x211 x212 x213 x214 x215 x216 x217 x218 x219 x220 x221 x222 x223 x224 x225 x226 x227 x228 x229 x230 x231 x232 x233 x234 x235 x236 x237 x238 x239 x240 x241 x242 x243 x244 x245 x246 x247 x248 x249 x250 x251 x252 x253 x254 x255 x256 x257 x258 x259 x260 x261 x262 x263 x264 x265 x266 x267 x268 x269 x270 x271 x272 x273 x274 x275 x276 x277 x278 x279 x280 x281 x282 x283 x284 x285 x286 x287 x288 x289 x290 x291 x292 x293 x294 x295 x296 x297 x298 x299 x300 x301 x302 x303 x304 x305 x306 x307 x308 x309 x310 x311 x312 x313 x314 x315 x316 x317 x318 x319 x320 x321 x322 x323 x324 x325 x326 x327 x328 x329
  conv => arg 2; whnf
  have HN := Lib.hid hN
  clear hN
  obtain ⟨tj, htj, htj0, htj1, htj2⟩ := info_parts infoTerm
  obtain ⟨s1, A1, n1, c1, B1, m1, d1, rfl, _, _⟩ := Tm.shape hp.r
  have hin := hp.r
  have hD := hp.dl
  have hbz := FsOk.base hp.m.fs
  have hhi := hp.hle
  obtain ⟨hown, hfrs, ⟨pz, pf, pn⟩, hB⟩ := hp.m
  have pd := hp.d
  have hqo := hp.q
  clear hp
  have HOWN := Lib.hid hown
  have HFRS := Lib.hid hfrs
  have HB := Lib.hid hB
  have HIN := Lib.hid hin
  have HQO := Lib.hid hqo
  clear hown hfrs hB hin hqo
  have pz_0 := cv0 pz
  have pz_1 := cv1 pz
  have pz_2 := cv2 pz
  have pz_3 := cv3 pz
  have pz_4 := cv4 pz
  have pz_5 := cv5 pz
  have pz_f0 := free_heap pz 0
  have pz_f1 := free_heap pz 1
  have pz_f2 := free_heap pz 2
  have pz_f3 := free_heap pz 3
  have pz_f4 := free_heap pz 4
  have pz_f5 := free_heap pz 5
  have pz_l := lt_heap pz
  have PZ := Lib.hid pz
  clear pz
  have pf_0 := cv0 pf
  have pf_1 := cv1 pf
  have pf_f0 := free_heap pf 0
  have pf_f1 := free_heap pf 1
  have pf_l := lt_heap pf
  have PF := Lib.hid pf
  clear pf
  have pn_0 := cv0 pn
  have pn_1 := cv1 pn
  have pn_2 := cv2 pn
  have pn_3 := cv3 pn
  have pn_4 := cv4 pn
  have pn_5 := cv5 pn
  have pn_l := lt_heap pn
  have PN := Lib.hid pn
  clear pn
  have pd_0 := cv0 pd
  have pd_1 := cv1 pd
  have pd_2 := cv2 pd
  have pd_3 := cv3 pd
  have pd_4 := cv4 pd
  have pd_5 := cv5 pd
  have pd_f0 := free_heap pd 0
  have pd_f1 := free_heap pd 1
  have pd_f2 := free_heap pd 2
  have pd_f3 := free_heap pd 3
  have pd_f4 := free_heap pd 4
  have pd_f5 := free_heap pd 5
  have pd_l := lt_heap pd
  have PD := Lib.hid pd
  clear pd
  obtain ⟨lo, hlo, hp, hrest⟩ := HFRS.out
  have hl1 : (((⟨f, t0, t1, pa⟩ : F7) :: r).length) = r.length + 1 := rfl
  rw [hl1] at HOWN HIN HQO hp hrest
  obtain ⟨g, capg, hAg, hgb, hgl⟩ := HOWN.out.form (by omega)
  injection hAg with hAg1 hAg2 hAg3
  subst hAg1 hAg3
  have hgD : g < D := HQO.out g rfl
  obtain ⟨old, cold, hpa⟩ := hp.2.1.len
  simp only at hpa
  subst hpa
  obtain ⟨xs, hvo, hall⟩ := hp.2.1
  simp only at hvo hall
  have hm1 : f.kids.length ≤ 1 := by cases f <;> simp [Fr.kids]
  have hvlo : ∀ b, (Value.slice old f.kids.length cold).ownBlock = some b → lo ≤ b ∧ b < hi ∧ some g ≠ some b := hp.2.2
  have hcells : ∀ j u, (F7.cells ⟨f, t0, t1, .slice old f.kids.length cold⟩ f.want)[j]? = some u → wr.cell? ⟨g, r.length * 7 + j, none⟩ = some u := by
    intro j u hj
    have hj2 : j < 7 := (List.getElem?_eq_some_iff.1 hj).1
    rw [HOWN.out.cellAt _ (by omega), f7Cells_cons, List.getElem?_append_right (by rw [f7Cells_len]; omega), f7Cells_len, show r.length * 7 + j - r.length * 7 = j by omega]
    exact hj
  have e5 : wr.cell? ⟨g, r.length * 7 + 5, none⟩ = some (.slice old f.kids.length cold) := hcells 5 _ rfl
  have e5f := HOWN.out.frozenAt (r.length * 7 + 5)
  have HP := Lib.hid hp
  have hneg : (Value.slice old f.kids.length cold).ownBlock ≠ some g := fun e => (hvlo g e).2.2 rfl
  have hneD : (Value.slice old f.kids.length cold).ownBlock ≠ some D := fun e => by have := (hvlo D e).2.1; omega
  have HVO := Lib.hid hvo
  have HALL := Lib.hid hall
  have HVLO := Lib.hid hvlo
  have HREST := Lib.hid hrest
  have HNEG := Lib.hid hneg
  have HNED := Lib.hid hneD
  clear hp hvo hall hvlo hrest hneg hneD hcells hl1
  have hloz : lo ≤ wr.heap.size := by omega
  have hlb := FsOk.base HREST.out
  have hfin : ∀ wx h cap, Apd7 wr wx (w.heap.size + 3) g r.length cq (.slice old f.kids.length cold) lo f.kids.length xs (f7Cells r) [.int .i64 v.tm.lab.kind, .string v.tm.lab.nm, .int .i64 v.tm.lab.ix, .string s1, .slice A1 n1 c1, .slice B1 m1 d1] f.kind t0 t1 f.want h cap D → TopAt w wx f t0 t1 r g cq D lo h cap v [.int .i64 v.tm.lab.kind, .string v.tm.lab.nm, .int .i64 v.tm.lab.ix, .string s1, .slice A1 n1 c1, .slice B1 m1 d1] f.want := by
    intro wx h cap hap
    obtain ⟨how, hty, hh1, hh2, hh3, hh4⟩ := hap.own (p := ⟨f, t0, t1, .slice old f.kids.length cold⟩) HP.out HALL.out HIN.out (by omega) (by omega) hD
    have hxs := hap.sz
    have hold : ∀ b, b < w.heap.size + 3 → (Value.slice old f.kids.length cold).ownBlock ≠ some b := fun b hb e => by have := (HVLO.out b e).1; omega
    exact ⟨hap.st, how, hty, HREST.out.keep (w' := wx) (fun b h1 h2 h3 => hap.keep b (by omega) (fun e => h3 (by rw [e]; rfl)) (fun e => by have := (HVLO.out b e).1; omega)) (fun b _ (e : some g = some b) => e) (Nat.le_refl _),
      ⟨(hap.keep w.heap.size pz_l (by omega) (hold _ (by omega))).trans PZ.out, (hap.keep (w.heap.size + 1) pf_l (by omega) (hold _ (by omega))).trans PF.out, (hap.keep (w.heap.size + 2) pn_l (by omega) (hold _ (by omega))).trans PN.out⟩,
      (hap.keep D hD (by omega) HNED.out).trans PD.out, HB.out.trans ⟨hap.os, hap.tape, hap.output, hap.sz, fun b hb => hap.keep b (by omega) (by omega) (hold b (by omega))⟩, by omega, hgD, by omega, hh1, hh2, hh3, hh4⟩
  have HFIN := Lib.hid hfin
  clear hfin
  have htop := HOWN.out
  rw [f7Cells_cons] at htop
  have HTOP := Lib.hid htop
  clear htop
  generalize hmm : f.kids.length = m at *
  have q5 : (0 : Int) ≤ (r.length : Int) := by omega
  have q6 : (r.length : Int) < (r.length : Int) + 1 := by omega
  have q7 : (0 : Int) ≤ (m : Int) := by omega
  have q8 : (m : Int) < (m : Int) + 1 := by omega
  clear pz_0 pz_1 pz_2 pz_3 pz_4 pz_5 pz_f0 pz_f1 pz_f2 pz_f3 pz_f4 pz_f5 pf_0 pf_1 pf_f0 pf_f1 pn_0 pn_1 pn_2 pn_3 pn_4 pn_5 pd_f0 pd_f1 pd_f2 pd_f3 pd_f4 pd_f5
  go_region_law ((refine step_append_lies _ (by rfl) (.tmp 270) (.tmp 273) _ (by rfl) lo 27 tj _ 6 96 Tryd.underlying25 htj htj0 htj1 htj2 rfl (by omega) (.slice old m cold) m xs (by rfl) (HVO.out.alloc _).drew ⟨wr.heap.size, 0, none⟩ 1 1 [.int .i64 0, .string ⟨#[]⟩, .int .i64 0, .string ⟨#[]⟩, .slice none 0 0, .slice none 0 0] (by rfl) (by rfl) (World.news_of_block (cs := #[.int .i64 0, .string ⟨#[]⟩, .int .i64 0, .string ⟨#[]⟩, .slice none 0 0, .slice none 0 0]) (t := 27) (fr := (0, 0)) (heap_alloc_new wr _)) (by simp [Value.oneCell']) (by omega) (by unfold maxLen; omega) (by omega) (by simp; omega) (wr.heap.size + 1) (by simp) ?_; intro gg cap w3 hown3 hgrow hat hlt; have kk : ∀ b, b < wr.heap.size → (Value.slice old m cold).ownBlock ≠ some b → w3.heap[b]? = wr.heap[b]? := (fun b hb hne => (hgrow.block b (by simp; omega) (fun e => hne e.symm)).trans (heap_old hb rfl)); have y5 := (cell_keep (kk g hgl HNEG.out) (r.length * 7 + 5)).trans e5; have y5f := (World.frozen?_of_block (a := ⟨g, r.length * 7 + 5, none⟩) (kk g hgl HNEG.out)).trans e5f; have yd0 := (cell_keep (kk _ pd_l HNED.out) 0).trans pd_0; have yd1 := (cell_keep (kk _ pd_l HNED.out) 1).trans pd_1; have yd2 := (cell_keep (kk _ pd_l HNED.out) 2).trans pd_2; have yd3 := (cell_keep (kk _ pd_l HNED.out) 3).trans pd_3; have yd4 := (cell_keep (kk _ pd_l HNED.out) 4).trans pd_4; have yd5 := (cell_keep (kk _ pd_l HNED.out) 5).trans pd_5; have zm0 := (hown3.cellAt (m * 6) (by omega)).trans (snocAt (j := 0) HVO.out.1); have zm1 := (hown3.cellAt (m * 6 + 1) (by omega)).trans (snocAt (j := 1) HVO.out.1); have zm2 := (hown3.cellAt (m * 6 + 2) (by omega)).trans (snocAt (j := 2) HVO.out.1); have zm3 := (hown3.cellAt (m * 6 + 3) (by omega)).trans (snocAt (j := 3) HVO.out.1); have zm4 := (hown3.cellAt (m * 6 + 4) (by omega)).trans (snocAt (j := 4) HVO.out.1); have zm5 := (hown3.cellAt (m * 6 + 5) (by omega)).trans (snocAt (j := 5) HVO.out.1); have zf0 := hown3.frozenAt (m * 6); have zf1 := hown3.frozenAt (m * 6 + 1); have zf2 := hown3.frozenAt (m * 6 + 2); have zf3 := hown3.frozenAt (m * 6 + 3); have zf4 := hown3.frozenAt (m * 6 + 4); have zf5 := hown3.frozenAt (m * 6 + 5); have ne1 : g ≠ gg := (by rintro rfl; rcases hat with h | h; exact HNEG.out h; omega); have ne2 : D ≠ gg := (by rintro rfl; rcases hat with h | h; exact HNED.out h; omega); have KK := Lib.hid kk; have HOWN3 := Lib.hid hown3; have HGROW := Lib.hid hgrow; have HAT := Lib.hid hat; clear kk hown3 hgrow hat; have apx := apd7 (d0 := .int .i64 v.tm.lab.kind) (d1 := .string v.tm.lab.nm) (d2 := .int .i64 v.tm.lab.ix) (d3 := .string s1) (d4 := .slice A1 n1 c1) (d5 := .slice B1 m1 d1) HTOP.out (f7Cells_len r) HVO.out.1 hgl HOWN3.out HGROW.out HAT.out hlt HNEG.out (fun e => ne2 e.symm); have X1 := Lib.hid apx.1; have X2 := Lib.hid apx.2; clear apx))
  all_goals
    go_wp2_with fail
    refine gen_last (fun wx => Apd7 wr wx (w.heap.size + 3) g r.length cq (.slice old m cold) lo m xs (f7Cells r) [.int .i64 v.tm.lab.kind, .string v.tm.lab.nm, .int .i64 v.tm.lab.ix, .string s1, .slice A1 n1 c1, .slice B1 m1 d1] f.kind t0 t1 f.want gg cap D) ?_ (fun wx hap => HN.out g lo gg cap [.int .i64 v.tm.lab.kind, .string v.tm.lab.nm, .int .i64 v.tm.lab.ix, .string s1, .slice A1 n1 c1, .slice B1 m1 d1] _ wx rfl hgb rfl (id ⟨rfl, rfl, rfl, rfl, rfl, rfl, rfl, rfl, rfl, rfl, rfl, trivial⟩) (HFIN.out _ _ _ hap))
    first
    | with_reducible exact X1.out
    | with_reducible exact X2.out
    | fail
end

section
open Go Go.RowKit
set_option linter.unusedSimpArgs false
set_option linter.unusedVariables false

theorem tr_then {id : Nat} {next : Act → World → Prop} {Q : Exit → Act → World → Prop} {a : Act} {w : World} (h : Q (.exit id) a w) : Exit.then next Q (.exit id) a w := h
theorem nameG_ge (x : ByteArray) (frm : Nat) : ∀ (f a : Nat), a ≤ nameG x frm f a
  | 0, a => Nat.le_refl _
  | f + 1, a => by
    unfold nameG
    split
    · exact Nat.le_trans (Nat.le_succ a) (nameG_ge x frm f (a + 1))
    · exact Nat.le_refl _
theorem TopAt.app0 {w u : World} {t0 t1 : Value} {r : List F7} {g cq D lo h cap : Nat} {v : Tv} {dc : List Value} (hp : TopAt w u .app0 t0 t1 r g cq D lo h cap v dc 1) : TMem w u (⟨.app1 v, t0, t1, .slice (some ⟨h, 0, none⟩) (0 + 1) cap⟩ :: r) (some ⟨g, 0, none⟩) cq u.heap.size := by
  obtain ⟨hst, how, hty, hfs, hz, hd, hB, hdl, hgl, hll, hh1, hh2, hh3, hh4⟩ := hp
  refine ⟨?_, ⟨lo, by omega, ⟨(hty.keep (fun _ _ => rfl)).mono (fun b hb => ⟨hb.1, hb.2.1, hb.2.2.1, fun e => hb.2.2.2.2 (by injection e with e; exact e.symm)⟩), how.keepS (fun _ _ _ => rfl) (fun _ _ _ => rfl) (fun b hb => ⟨hb.1, hb.2.1, hb.2.2.1⟩), fun b e => by injection e with e; subst e; exact ⟨hh1, hh2, hh3⟩⟩, hfs⟩, hz, hB⟩
  rw [f7Cells_cons]
  exact hst
noncomputable def c_tr_popl : Code := sub [1, 1, 1, 1, 1, 0, 0, 0, 1, 1, 1, 1, 1, 1, 1, 0] (Tryd.f9.body.getD .skip)
set_option maxRecDepth 100000 in
theorem tr_popl_wp {Q : Exit → Act → World → Prop} {x : ByteArray} {w wi : World} {frs : List F7} {Aq : Option Addr} {cq i n D hi : Nat} {v : Tv} {dc : List Value} {R0 : Tr} (hx4 : x.size ≤ 4000) (hl : frs.length ≤ 40) (hix : i ≤ x.size) (hp : PopAt w wi frs Aq cq D hi v dc) (hfold : foldT x (frs.map (·.f)) v i n = R0) (hR : ∀ c j : Nat, R0 = .bad c j → ∀ a' w', Frm 330 [(2, .pointer (some ⟨w.heap.size, 0, none⟩)), (3, .pointer (some ⟨w.heap.size + 1, 0, none⟩))] a' → w'.heap[w.heap.size]? = some (.cells #[.int .i64 0, .string ⟨#[]⟩, .int .i64 0, .string ⟨#[]⟩, .slice none 0 0, .slice none 0 0] 27 (0, 0)) → w'.heap[w.heap.size + 1]? = some (.cells #[.int .i64 (c : Nat), .int .i64 (j : Nat)] 29 (0, 0)) → Below w.heap.size w w' → Q .ret a' w') (hM : ∀ (v : Tv) (i : Nat), R0 = .ok v i → i < x.size → ∀ a' w', Frm 330 [(2, .pointer (some ⟨w.heap.size, 0, none⟩)), (3, .pointer (some ⟨w.heap.size + 1, 0, none⟩))] a' → w'.heap[w.heap.size]? = some (.cells #[.int .i64 0, .string ⟨#[]⟩, .int .i64 0, .string ⟨#[]⟩, .slice none 0 0, .slice none 0 0] 27 (0, 0)) → w'.heap[w.heap.size + 1]? = some (.cells #[.int .i64 11, .int .i64 (i : Nat)] 29 (0, 0)) → Below w.heap.size w w' → Q .ret a' w') (hF : ∀ (v : Tv) (i : Nat), R0 = .ok v i → ¬ i < x.size → (tmFault v.tm).1 ≠ 0 → ∀ a' w', Frm 330 [(2, .pointer (some ⟨w.heap.size, 0, none⟩)), (3, .pointer (some ⟨w.heap.size + 1, 0, none⟩))] a' → w'.heap[w.heap.size]? = some (.cells #[.int .i64 0, .string ⟨#[]⟩, .int .i64 0, .string ⟨#[]⟩, .slice none 0 0, .slice none 0 0] 27 (0, 0)) → w'.heap[w.heap.size + 1]? = some (.cells #[.int .i64 ((tmFault v.tm).1 : Nat), .int .i64 (tmFault v.tm).2] 29 (0, 0)) → Below w.heap.size w w' → Q .ret a' w') (hG : ∀ (v : Tv) (i : Nat), R0 = .ok v i → ¬ i < x.size → (tmFault v.tm).1 = 0 → ∀ (es : List Value) a' w', Frm 330 [(2, .pointer (some ⟨w.heap.size, 0, none⟩)), (3, .pointer (some ⟨w.heap.size + 1, 0, none⟩))] a' → w'.heap[w.heap.size]? = some (.cells es.toArray 27 (0, 0)) → w'.heap[w.heap.size + 1]? = some (.cells #[.int .i64 0, .int .i64 0] 29 (0, 0)) → Below w.heap.size w w' → tmRep.R w' (Fresh w w') v.tm es → Q .ret a' w')
    (hX : ∀ (i2 : Nat) (frs2 : List F7) (Aq2 : Option Addr) (cq2 : Nat) a' w', i < i2 → i2 ≤ x.size → frs2.length ≤ 40 → Frm 330 [(0, .string x), (2, .pointer (some ⟨w.heap.size, 0, none⟩)), (3, .pointer (some ⟨w.heap.size + 1, 0, none⟩)), (4, .slice Aq2 frs2.length cq2), (5, .int .i64 (i2 : Nat)), (6, .int .i64 (n : Nat)), (7, .pointer (some ⟨w.heap.size + 2, 0, none⟩))] a' → TMem w w' frs2 Aq2 cq2 w'.heap.size → runT x (frs2.map (·.f)) i2 n = R0 → Q (.exit 6) a' w') :
    ∀ ac, Frm 330 [(0, .string x), (2, .pointer (some ⟨w.heap.size, 0, none⟩)), (3, .pointer (some ⟨w.heap.size + 1, 0, none⟩)), (4, .slice Aq frs.length cq), (5, .int .i64 (i : Nat)), (6, .int .i64 (n : Nat)), (7, .pointer (some ⟨w.heap.size + 2, 0, none⟩)), (8, .pointer (some ⟨D, 0, none⟩))] ac → Code.wp Tryd.prog c_tr_popl Q ac wi := by
  intro a0 hf0
  conv => arg 2; whnf
  refine wp_loopR (fun k a' w' => ∃ (i2 : Nat) (frs2 : List F7) (Aq2 : Option Addr) (cq2 hi2 : Nat) (v2 : Tv) (dc2 : List Value), frs2.length = k ∧ i ≤ i2 ∧ i2 ≤ x.size ∧ frs2.length ≤ 40 ∧ PopAt w w' frs2 Aq2 cq2 D hi2 v2 dc2 ∧ foldT x (frs2.map (·.f)) v2 i2 n = R0 ∧ Frm 330 [(0, .string x), (2, .pointer (some ⟨w.heap.size, 0, none⟩)), (3, .pointer (some ⟨w.heap.size + 1, 0, none⟩)), (4, .slice Aq2 frs2.length cq2), (5, .int .i64 (i2 : Nat)), (6, .int .i64 (n : Nat)), (7, .pointer (some ⟨w.heap.size + 2, 0, none⟩)), (8, .pointer (some ⟨D, 0, none⟩))] a') frs.length ⟨i, frs, Aq, cq, hi, v, dc, rfl, Nat.le_refl _, hix, hl, hp, hfold, hf0⟩ ?_
  rintro k a1 w1 ⟨i2, frs2, Aq2, cq2, hi2, v2, dc2, hk, hii, hix2, hl2, hp2, hfold2, hfr⟩
  refine wp_block ?_
  cases frs2 with
  | nil =>
    have hr0 : R0 = .ok v2 i2 := hfold2.symm
    refine wp_seq ?_
    refine tr_nil_wp hx4 hp2 ?_ ?_ ?_ a1 hfr
    · exact hM v2 i2 hr0
    · exact hF v2 i2 hr0
    · exact hG v2 i2 hr0
  | cons p r =>
    obtain ⟨f, t0, t1, pa⟩ := p
    have hr40 : r.length + 1 ≤ 40 := hl2
    refine wp_seq ?_
    refine tr_cons_wp (fun a2 h2 => ?_) a1 hfr
    refine wp_seq ?_
    refine tr_r50_wp (by omega) (fun a3 h3 => ?_) a2 h2
    refine wp_seq ?_
    refine Code.wp_mono (Q := Exit.then (fun a' w' => ∃ (g lo h cap : Nat) (dc3 : List Value), Aq2 = some ⟨g, 0, none⟩ ∧ w.heap.size + 3 ≤ g ∧ dc3 = [dc3.getD 0 undef, dc3.getD 1 undef, dc3.getD 2 undef, dc3.getD 3 undef, dc3.getD 4 undef, dc3.getD 5 undef] ∧ Frm 330 [(0, .string x), (2, .pointer (some ⟨w.heap.size, 0, none⟩)), (3, .pointer (some ⟨w.heap.size + 1, 0, none⟩)), (4, .slice Aq2 (r.length + 1) cq2), (5, .int .i64 (i2 : Nat)), (6, .int .i64 (n : Nat)), (7, .pointer (some ⟨w.heap.size + 2, 0, none⟩)), (8, .pointer (some ⟨D, 0, none⟩)), (19, .int .i64 (r.length : Nat))] a' ∧ TopAt w w' f t0 t1 r g cq2 D lo h cap v2 dc3 f.want) (fun _ _ _ => False)) ?_ (tr_r51_wp (by omega) hp2 (fun g lo h cap dc3 a4 w4 e1 e2 e3 e4 e5 => ⟨g, lo, h, cap, dc3, e1, e2, e3, e4, e5⟩) a3 h3)
    intro e a4 w4 he
    cases e with
    | normal =>
      obtain ⟨g, lo, h, cap, dc3, rfl, hg3, hdc, hf4, htop⟩ := he
      show Code.wp _ _ _ a4 w4
      refine wp_seq ?_
      refine tr_r52_wp hg3 htop (fun a5 w5 h5 ht5 => ?_) a4 hf4
      show Code.wp _ _ _ a5 w5
      simp only [List.length_cons] at hk
      cases f with
      | abs s =>
        refine tr_tabs_wp (s := s) hx4 hg3 hdc ht5 (fun hb => ?_) (fun hb dc6 a6 w6 h6 hp6 => ?_) a5 h5
        · exact hR 11 i2 (hfold2.symm.trans ((foldT_abs (s := s)).2 hb))
        · exact ⟨r.length, by omega, i2 + 1, r, some ⟨g, 0, none⟩, cq2, lo, .abs s v2, dc6, rfl, by omega, byteAt_lt (by omega), by omega, hp6, ((foldT_abs (s := s)).1 hb).symm.trans hfold2, h6⟩
      | app1 f0 =>
        refine tr_tapp_wp (f0 := f0) hx4 hg3 hdc ht5 (fun hb => ?_) (fun hb dc6 a6 w6 h6 hp6 => ?_) a5 h5
        · exact hR 11 i2 (hfold2.symm.trans ((foldT_app1 (f := f0)).2 hb))
        · exact ⟨r.length, by omega, i2 + 1, r, some ⟨g, 0, none⟩, cq2, lo, .app f0 v2, dc6, rfl, by omega, byteAt_lt (by omega), by omega, hp6, ((foldT_app1 (f := f0)).1 hb).symm.trans hfold2, h6⟩
      | app0 =>
        refine tr_tap0_wp hx4 hg3 hdc ht5 (fun hb => ?_) (fun hb a6 h6 => ?_) a5 h5
        · exact hR 11 i2 (hfold2.symm.trans (foldT_app0.2 hb))
        · exact inBlock_far (by decide) (hX (i2 + 1) (⟨.app1 v2, t0, t1, .slice (some ⟨h, 0, none⟩) (0 + 1) cap⟩ :: r) (some ⟨g, 0, none⟩) cq2 a6 w5 (by omega) (byteAt_lt (by omega)) hr40 h6 ht5.app0 ((foldT_app0.1 hb).symm.trans hfold2))
    | _ => exact he.elim
noncomputable def c_tr_lh : Code := sub [1, 1, 1, 1, 1, 0, 0, 0, 1, 1, 1, 1, 1, 1, 0, 0] (Tryd.f9.body.getD .skip)
set_option maxRecDepth 1000000 in
theorem open_tr_lh {P : Act → Prop} {v0 v1 v2 v3 v4 v5 v6 v7 : Value} (h : ∀ x1 x9 x10 x11 x12 x13 x14 x15 x16 x17 x18 x19 x20 x21 x22 x23 x24 x25 x26 x27 x28 x29 x30 x31 x32 x33 x34 x35 x36 x37 x38 x39 x40 x41 x42 x43 x44 x45 x46 x47 x48 x49 x50 x51 x52 x53 x54 x55 x56 x57 x58 x59 x60 x61 x62 x63 x64 x65 x66 x67 x68 x69 x70 x71 x72 x73 x74 x75 x76 x77 x78 x79 x80 x81 x82 x83 x84 x85 x86 x87 x88 x89 x90 x91 x92 x93 x94 x95 x96 x97 x98 x99 x100 x101 x102 x103 x104 x105 x106 x107 x108 x109 x110 x111 x112 x113 x114 x115 x116 x117 x118 x119 x120 x121 x122 x123 x124 x125 x126 x127 x128 x129 x130 x131 x132 x133 x134 x135 x136 x137 x138 x139 x140 x141 x142 x143 x144 x145 x146 x147 x148 x149 x150 x151 x152 x153 x154 x155 x156 x157 x158 x159 x160 x161 x162 x163 x164 x165 x166 x167 x168 x169 x170 x171 x172 x173 x174 x175 x176 x177 x178 x179 x180 x181 x182 x183 x184 x185 x186 x187 x188 x189 x190 x191 x192 x193 x194 x195 x196 x197 x198 x199 x200 x201 x202 x203 x204 x205 x206 x207 x208 x209 x210 x211 x212 x213 x214 x215 x216 x217 x218 x219 x220 x221 x222 x223 x224 x225 x226 x227 x228 x229 x230 x231 x232 x233 x234 x235 x236 x237 x238 x239 x240 x241 x242 x243 x244 x245 x246 x247 x248 x249 x250 x251 x252 x253 x254 x255 x256 x257 x258 x259 x260 x261 x262 x263 x264 x265 x266 x267 x268 x269 x270 x271 x272 x273 x274 x275 x276 x277 x278 x279 x280 x281 x282 x283 x284 x285 x286 x287 x288 x289 x290 x291 x292 x293 x294 x295 x296 x297 x298 x299 x300 x301 x302 x303 x304 x305 x306 x307 x308 x309 x310 x311 x312 x313 x314 x315 x316 x317 x318 x319 x320 x321 x322 x323 x324 x325 x326 x327 x328 x329 : Value, P ⟨(v0 :: x1 :: v1 :: v2 :: v3 :: v4 :: v5 :: v6 :: v7 :: x9 :: x10 :: x11 :: x12 :: x13 :: x14 :: x15 :: x16 :: x17 :: x18 :: x19 :: x20 :: x21 :: x22 :: x23 :: x24 :: x25 :: x26 :: x27 :: x28 :: x29 :: x30 :: x31 :: x32 :: x33 :: x34 :: x35 :: x36 :: x37 :: x38 :: x39 :: x40 :: x41 :: x42 :: x43 :: x44 :: x45 :: x46 :: x47 :: x48 :: x49 :: x50 :: x51 :: x52 :: x53 :: x54 :: x55 :: x56 :: x57 :: x58 :: x59 :: x60 :: x61 :: x62 :: x63 :: x64 :: x65 :: x66 :: x67 :: x68 :: x69 :: x70 :: x71 :: x72 :: x73 :: x74 :: x75 :: x76 :: x77 :: x78 :: x79 :: x80 :: x81 :: x82 :: x83 :: x84 :: x85 :: x86 :: x87 :: x88 :: x89 :: x90 :: x91 :: x92 :: x93 :: x94 :: x95 :: x96 :: x97 :: x98 :: x99 :: x100 :: x101 :: x102 :: x103 :: x104 :: x105 :: x106 :: x107 :: x108 :: x109 :: x110 :: x111 :: x112 :: x113 :: x114 :: x115 :: x116 :: x117 :: x118 :: x119 :: x120 :: x121 :: x122 :: x123 :: x124 :: x125 :: x126 :: x127 :: x128 :: x129 :: x130 :: x131 :: x132 :: x133 :: x134 :: x135 :: x136 :: x137 :: x138 :: x139 :: x140 :: x141 :: x142 :: x143 :: x144 :: x145 :: x146 :: x147 :: x148 :: x149 :: x150 :: x151 :: x152 :: x153 :: x154 :: x155 :: x156 :: x157 :: x158 :: x159 :: x160 :: x161 :: x162 :: x163 :: x164 :: x165 :: x166 :: x167 :: x168 :: x169 :: x170 :: x171 :: x172 :: x173 :: x174 :: x175 :: x176 :: x177 :: x178 :: x179 :: x180 :: x181 :: x182 :: x183 :: x184 :: x185 :: x186 :: x187 :: x188 :: x189 :: x190 :: x191 :: x192 :: x193 :: x194 :: x195 :: x196 :: x197 :: x198 :: x199 :: x200 :: x201 :: x202 :: x203 :: x204 :: x205 :: x206 :: x207 :: x208 :: x209 :: x210 :: x211 :: x212 :: x213 :: x214 :: x215 :: x216 :: x217 :: x218 :: x219 :: x220 :: x221 :: x222 :: x223 :: x224 :: x225 :: x226 :: x227 :: x228 :: x229 :: x230 :: x231 :: x232 :: x233 :: x234 :: x235 :: x236 :: x237 :: x238 :: x239 :: x240 :: x241 :: x242 :: x243 :: x244 :: x245 :: x246 :: x247 :: x248 :: x249 :: x250 :: x251 :: x252 :: x253 :: x254 :: x255 :: x256 :: x257 :: x258 :: x259 :: x260 :: x261 :: x262 :: x263 :: x264 :: x265 :: x266 :: x267 :: x268 :: x269 :: x270 :: x271 :: x272 :: x273 :: x274 :: x275 :: x276 :: x277 :: x278 :: x279 :: x280 :: x281 :: x282 :: x283 :: x284 :: x285 :: x286 :: x287 :: x288 :: x289 :: x290 :: x291 :: x292 :: x293 :: x294 :: x295 :: x296 :: x297 :: x298 :: x299 :: x300 :: x301 :: x302 :: x303 :: x304 :: x305 :: x306 :: x307 :: x308 :: x309 :: x310 :: x311 :: x312 :: x313 :: x314 :: x315 :: x316 :: x317 :: x318 :: x319 :: x320 :: x321 :: x322 :: x323 :: x324 :: x325 :: x326 :: x327 :: x328 :: x329 :: []).toArray, []⟩) : ∀ a, Frm 330 [(0, v0), (2, v1), (3, v2), (4, v3), (5, v4), (6, v5), (7, v6), (8, v7)] a → P a := by
  rintro a ⟨h1, h2, e0, e1, e2, e3, e4, e5, e6, e7, _⟩
  revert e0 e1 e2 e3 e4 e5 e6 e7
  refine frame_tr (P := fun a => a.tmps.toList[0]? = some v0 → a.tmps.toList[2]? = some v1 → a.tmps.toList[3]? = some v2 → a.tmps.toList[4]? = some v3 → a.tmps.toList[5]? = some v4 → a.tmps.toList[6]? = some v5 → a.tmps.toList[7]? = some v6 → a.tmps.toList[8]? = some v7 → P a) ?_ a h1 h2
  intro x0 x1 x2 x3 x4 x5 x6 x7 x8 x9 x10 x11 x12 x13 x14 x15 x16 x17 x18 x19 x20 x21 x22 x23 x24 x25 x26 x27 x28 x29 x30 x31 x32 x33 x34 x35 x36 x37 x38 x39 x40 x41 x42 x43 x44 x45 x46 x47 x48 x49 x50 x51 x52 x53 x54 x55 x56 x57 x58 x59 x60 x61 x62 x63 x64 x65 x66 x67 x68 x69 x70 x71 x72 x73 x74 x75 x76 x77 x78 x79 x80 x81 x82 x83 x84 x85 x86 x87 x88 x89 x90 x91 x92 x93 x94 x95 x96 x97 x98 x99 x100 x101 x102 x103 x104 x105 x106 x107 x108 x109 x110 x111 x112 x113 x114 x115 x116 x117 x118 x119 x120 x121 x122 x123 x124 x125 x126 x127 x128 x129 x130 x131 x132 x133 x134 x135 x136 x137 x138 x139 x140 x141 x142 x143 x144 x145 x146 x147 x148 x149 x150 x151 x152 x153 x154 x155 x156 x157 x158 x159 x160 x161 x162 x163 x164 x165 x166 x167 x168 x169 x170 x171 x172 x173 x174 x175 x176 x177 x178 x179 x180 x181 x182 x183 x184 x185 x186 x187 x188 x189 x190 x191 x192 x193 x194 x195 x196 x197 x198 x199 x200 x201 x202 x203 x204 x205 x206 x207 x208 x209 x210 x211 x212 x213 x214 x215 x216 x217 x218 x219 x220 x221 x222 x223 x224 x225 x226 x227 x228 x229 x230 x231 x232 x233 x234 x235 x236 x237 x238 x239 x240 x241 x242 x243 x244 x245 x246 x247 x248 x249 x250 x251 x252 x253 x254 x255 x256 x257 x258 x259 x260 x261 x262 x263 x264 x265 x266 x267 x268 x269 x270 x271 x272 x273 x274 x275 x276 x277 x278 x279 x280 x281 x282 x283 x284 x285 x286 x287 x288 x289 x290 x291 x292 x293 x294 x295 x296 x297 x298 x299 x300 x301 x302 x303 x304 x305 x306 x307 x308 x309 x310 x311 x312 x313 x314 x315 x316 x317 x318 x319 x320 x321 x322 x323 x324 x325 x326 x327 x328 x329 e0 e1 e2 e3 e4 e5 e6 e7
  obtain rfl : x0 = v0 := Option.some.inj e0
  obtain rfl : x2 = v1 := Option.some.inj e1
  obtain rfl : x3 = v2 := Option.some.inj e2
  obtain rfl : x4 = v3 := Option.some.inj e3
  obtain rfl : x5 = v4 := Option.some.inj e4
  obtain rfl : x6 = v5 := Option.some.inj e5
  obtain rfl : x7 = v6 := Option.some.inj e6
  obtain rfl : x8 = v7 := Option.some.inj e7
  exact h x1 x9 x10 x11 x12 x13 x14 x15 x16 x17 x18 x19 x20 x21 x22 x23 x24 x25 x26 x27 x28 x29 x30 x31 x32 x33 x34 x35 x36 x37 x38 x39 x40 x41 x42 x43 x44 x45 x46 x47 x48 x49 x50 x51 x52 x53 x54 x55 x56 x57 x58 x59 x60 x61 x62 x63 x64 x65 x66 x67 x68 x69 x70 x71 x72 x73 x74 x75 x76 x77 x78 x79 x80 x81 x82 x83 x84 x85 x86 x87 x88 x89 x90 x91 x92 x93 x94 x95 x96 x97 x98 x99 x100 x101 x102 x103 x104 x105 x106 x107 x108 x109 x110 x111 x112 x113 x114 x115 x116 x117 x118 x119 x120 x121 x122 x123 x124 x125 x126 x127 x128 x129 x130 x131 x132 x133 x134 x135 x136 x137 x138 x139 x140 x141 x142 x143 x144 x145 x146 x147 x148 x149 x150 x151 x152 x153 x154 x155 x156 x157 x158 x159 x160 x161 x162 x163 x164 x165 x166 x167 x168 x169 x170 x171 x172 x173 x174 x175 x176 x177 x178 x179 x180 x181 x182 x183 x184 x185 x186 x187 x188 x189 x190 x191 x192 x193 x194 x195 x196 x197 x198 x199 x200 x201 x202 x203 x204 x205 x206 x207 x208 x209 x210 x211 x212 x213 x214 x215 x216 x217 x218 x219 x220 x221 x222 x223 x224 x225 x226 x227 x228 x229 x230 x231 x232 x233 x234 x235 x236 x237 x238 x239 x240 x241 x242 x243 x244 x245 x246 x247 x248 x249 x250 x251 x252 x253 x254 x255 x256 x257 x258 x259 x260 x261 x262 x263 x264 x265 x266 x267 x268 x269 x270 x271 x272 x273 x274 x275 x276 x277 x278 x279 x280 x281 x282 x283 x284 x285 x286 x287 x288 x289 x290 x291 x292 x293 x294 x295 x296 x297 x298 x299 x300 x301 x302 x303 x304 x305 x306 x307 x308 x309 x310 x311 x312 x313 x314 x315 x316 x317 x318 x319 x320 x321 x322 x323 x324 x325 x326 x327 x328 x329
set_option maxRecDepth 1000000 in
set_option maxHeartbeats 16000000 in
theorem tr_lh_wp {Q : Exit → Act → World → Prop} {x : ByteArray} {w : World} {frs : List F7} {Aq : Option Addr} {cq i n : Nat} {wo : World} {D : Nat} (hi : i < x.size) (hT : byteAt x i = 35 → ∀ a', Frm 330 [(0, .string x), (2, .pointer (some ⟨w.heap.size, 0, none⟩)), (3, .pointer (some ⟨w.heap.size + 1, 0, none⟩)), (4, .slice Aq frs.length cq), (5, .int .i64 (i : Nat)), (6, .int .i64 (n : Nat)), (7, .pointer (some ⟨w.heap.size + 2, 0, none⟩)), (8, .pointer (some ⟨D, 0, none⟩)), (128, .bool true)] a' → Q .normal a' wo) (hN : byteAt x i ≠ 35 → ∀ a', Frm 330 [(0, .string x), (2, .pointer (some ⟨w.heap.size, 0, none⟩)), (3, .pointer (some ⟨w.heap.size + 1, 0, none⟩)), (4, .slice Aq frs.length cq), (5, .int .i64 (i : Nat)), (6, .int .i64 (n : Nat)), (7, .pointer (some ⟨w.heap.size + 2, 0, none⟩)), (8, .pointer (some ⟨D, 0, none⟩)), (128, .bool false)] a' → Q .normal a' wo) : ∀ ac, Frm 330 [(0, .string x), (2, .pointer (some ⟨w.heap.size, 0, none⟩)), (3, .pointer (some ⟨w.heap.size + 1, 0, none⟩)), (4, .slice Aq frs.length cq), (5, .int .i64 (i : Nat)), (6, .int .i64 (n : Nat)), (7, .pointer (some ⟨w.heap.size + 2, 0, none⟩)), (8, .pointer (some ⟨D, 0, none⟩))] ac → Code.wp Tryd.prog c_tr_lh Q ac wo := by
  refine open_tr_lh (P := fun a => Code.wp Tryd.prog c_tr_lh Q a wo) ?_
  intro x1 x9 x10 x11 x12 x13 x14 x15 x16 x17 x18 x19 x20 x21 x22 x23 x24 x25 x26 x27 x28 x29 x30 x31 x32 x33 x34 x35 x36 x37 x38 x39 x40 x41 x42 x43 x44 x45 x46 x47 x48 x49 x50 x51 x52 x53 x54 x55 x56 x57 x58 x59 x60 x61 x62 x63 x64 x65 x66 x67 x68 x69 x70 x71 x72 x73 x74 x75 x76 x77 x78 x79 x80 x81 x82 x83 x84 x85 x86 x87 x88 x89 x90 x91 x92 x93 x94 x95 x96 x97 x98 x99 x100 x101 x102 x103 x104 x105 x106 x107 x108 x109 x110 x111 x112 x113 x114 x115 x116 x117 x118 x119 x120 x121 x122 x123 x124 x125 x126 x127 x128 x129 x130 x131 x132 x133 x134 x135 x136 x137 x138 x139 x140 x141 x142 x143 x144 x145 x146 x147 x148 x149 x150 x151 x152 x153 x154 x155 x156 x157 x158 x159 x160 x161 x162 x163 x164 x165 x166 x167 x168 x169 x170 x171 x172 x173 x174 x175 x176 x177 x178 x179 x180 x181 x182 x183 x184 x185 x186 x187 x188 x189 x190 x191 x192 x193 x194 x195 x196 x197 x198 x199 x200 x201 x202 x203 x204 x205 x206 x207 x208 x209 x210 x211 x212 x213 x214 x215 x216 x217 x218 x219 x220 x221 x222 x223 x224 x225 x226 x227 x228 x229 x230 x231 x232 x233 x234 x235 x236 x237 x238 x239 x240 x241 x242 x243 x244 x245 x246 x247 x248 x249 x250 x251 x252 x253 x254 x255 x256 x257 x258 x259 x260 x261 x262 x263 x264 x265 x266 x267 x268 x269 x270 x271 x272 x273 x274 x275 x276 x277 x278 x279 x280 x281 x282 x283 x284 x285 x286 x287 x288 x289 x290 x291 x292 x293 x294 x295 x296 x297 x298 x299 x300 x301 x302 x303 x304 x305 x306 x307 x308 x309 x310 x311 x312 x313 x314 x315 x316 x317 x318 x319 x320 x321 x322 x323 x324 x325 x326 x327 x328 x329
  conv => arg 2; whnf
  have HT := Lib.hid hT
  have HN := Lib.hid hN
  clear hT hN
  have hba : byteAt x i = (x[i]'hi).toNat := byteAt_in hi
  by_cases h35 : byteAt x i = 35
  · have t1 : ((((x[i]'hi).toNat : Nat) : Int) == 35) = true := by rw [← hba, h35]; rfl
    replace HT := Lib.hid (HT.out h35)
    clear h35 hba
    go_wp2_with fail
    exact HT.out _ (id ⟨rfl, rfl, rfl, rfl, rfl, rfl, rfl, rfl, rfl, rfl, rfl, trivial⟩)
  · have t1 : ((((x[i]'hi).toNat : Nat) : Int) == 35) = false := beq_eq_false_iff_ne.2 (by omega)
    replace HN := Lib.hid (HN.out h35)
    clear h35 hba
    go_wp2_with fail
    exact HN.out _ (id ⟨rfl, rfl, rfl, rfl, rfl, rfl, rfl, rfl, rfl, rfl, rfl, trivial⟩)
noncomputable def c_tr_loop : Code := sub [1, 1, 1, 1, 1, 0] (Tryd.f9.body.getD .skip)
set_option maxRecDepth 100000 in
theorem tr_loop_wp {Q : Exit → Act → World → Prop} {x : ByteArray} {w wi : World} {R0 : Tr} (hx4 : x.size ≤ 4000) (hz : (wi.heap[w.heap.size]? = some (.cells #[.int .i64 0, .string ⟨#[]⟩, .int .i64 0, .string ⟨#[]⟩, .slice none 0 0, .slice none 0 0] 27 (0, 0)) ∧ wi.heap[w.heap.size + 1]? = some (.cells #[.int .i64 0, .int .i64 0] 29 (0, 0)) ∧ wi.heap[w.heap.size + 2]? = some (.cells #[.int .i64 0, .string ⟨#[]⟩, .int .i64 0, .string ⟨#[]⟩, .slice none 0 0, .slice none 0 0] 27 (0, 0)))) (hB : Below w.heap.size w wi) (hsz : w.heap.size + 3 ≤ wi.heap.size) (hR0 : runT x [] 0 0 = R0) (hne : ∀ c j : Nat, R0 = .bad c j → c ≠ 0) (hR : ∀ c j : Nat, R0 = .bad c j → ∀ a' w', Frm 330 [(2, .pointer (some ⟨w.heap.size, 0, none⟩)), (3, .pointer (some ⟨w.heap.size + 1, 0, none⟩))] a' → w'.heap[w.heap.size]? = some (.cells #[.int .i64 0, .string ⟨#[]⟩, .int .i64 0, .string ⟨#[]⟩, .slice none 0 0, .slice none 0 0] 27 (0, 0)) → w'.heap[w.heap.size + 1]? = some (.cells #[.int .i64 (c : Nat), .int .i64 (j : Nat)] 29 (0, 0)) → Below w.heap.size w w' → Q .ret a' w') (hM : ∀ (v : Tv) (i : Nat), R0 = .ok v i → i < x.size → ∀ a' w', Frm 330 [(2, .pointer (some ⟨w.heap.size, 0, none⟩)), (3, .pointer (some ⟨w.heap.size + 1, 0, none⟩))] a' → w'.heap[w.heap.size]? = some (.cells #[.int .i64 0, .string ⟨#[]⟩, .int .i64 0, .string ⟨#[]⟩, .slice none 0 0, .slice none 0 0] 27 (0, 0)) → w'.heap[w.heap.size + 1]? = some (.cells #[.int .i64 11, .int .i64 (i : Nat)] 29 (0, 0)) → Below w.heap.size w w' → Q .ret a' w') (hF : ∀ (v : Tv) (i : Nat), R0 = .ok v i → ¬ i < x.size → (tmFault v.tm).1 ≠ 0 → ∀ a' w', Frm 330 [(2, .pointer (some ⟨w.heap.size, 0, none⟩)), (3, .pointer (some ⟨w.heap.size + 1, 0, none⟩))] a' → w'.heap[w.heap.size]? = some (.cells #[.int .i64 0, .string ⟨#[]⟩, .int .i64 0, .string ⟨#[]⟩, .slice none 0 0, .slice none 0 0] 27 (0, 0)) → w'.heap[w.heap.size + 1]? = some (.cells #[.int .i64 ((tmFault v.tm).1 : Nat), .int .i64 (tmFault v.tm).2] 29 (0, 0)) → Below w.heap.size w w' → Q .ret a' w') (hG : ∀ (v : Tv) (i : Nat), R0 = .ok v i → ¬ i < x.size → (tmFault v.tm).1 = 0 → ∀ (es : List Value) a' w', Frm 330 [(2, .pointer (some ⟨w.heap.size, 0, none⟩)), (3, .pointer (some ⟨w.heap.size + 1, 0, none⟩))] a' → w'.heap[w.heap.size]? = some (.cells es.toArray 27 (0, 0)) → w'.heap[w.heap.size + 1]? = some (.cells #[.int .i64 0, .int .i64 0] 29 (0, 0)) → Below w.heap.size w w' → tmRep.R w' (Fresh w w') v.tm es → Q .ret a' w') :
    ∀ ac, Frm 330 [(0, .string x), (2, .pointer (some ⟨w.heap.size, 0, none⟩)), (3, .pointer (some ⟨w.heap.size + 1, 0, none⟩)), (4, .slice none 0 0), (5, .int .i64 (0 : Nat)), (6, .int .i64 (0 : Nat)), (7, .pointer (some ⟨w.heap.size + 2, 0, none⟩))] ac → Code.wp Tryd.prog c_tr_loop Q ac wi := by
  intro a0 hf0
  conv => arg 2; whnf
  refine wp_loopR (fun k a' w' => ∃ (i n : Nat) (frs : List F7) (Aq : Option Addr) (cq : Nat), i + k = x.size ∧ n ≤ 200 ∧ frs.length ≤ 40 ∧ TMem w w' frs Aq cq w'.heap.size ∧ runT x (frs.map (·.f)) i n = R0 ∧ Frm 330 [(0, .string x), (2, .pointer (some ⟨w.heap.size, 0, none⟩)), (3, .pointer (some ⟨w.heap.size + 1, 0, none⟩)), (4, .slice Aq frs.length cq), (5, .int .i64 (i : Nat)), (6, .int .i64 (n : Nat)), (7, .pointer (some ⟨w.heap.size + 2, 0, none⟩))] a') x.size ⟨0, 0, [], none, 0, by omega, by omega, by simp, ⟨World.ownsRow_nil _ _ _ _, by simpa [FsOk] using hsz, hz, hB⟩, hR0, hf0⟩ ?_
  rintro k a1 wr ⟨i, n, frs, Aq, cq, hk, hn, hl, hm, hrun, hfr⟩
  refine wp_block ?_
  refine wp_seq ?_
  refine tr_test_wp hx4 hm.z hm.B (fun hs => ?_) (fun hst hi a2 h2 => ?_) a1 hfr
  · exact hR 11 i (hrun.symm.trans (runT_none hs))
  refine wp_seq ?_
  refine tr_inc_wp (by omega) (fun a3 h3 => ?_) a2 h2
  refine wp_seq ?_
  refine tr_lim_wp hm.z hm.B (fun hs => ?_) (fun hs a4 h4 => ?_) a3 h3
  · exact hR 1 i (hrun.symm.trans (runT_much hst (by simpa using hs)))
  have hlim : ¬ (200 < n + 1 ∨ 40 ≤ (frs.map (·.f)).length) := by simpa using hs
  have hn2 : n + 1 ≤ 200 := by omega
  have hl39 : frs.length ≤ 39 := by omega
  refine wp_seq ?_
  refine tr_done_wp (fun a5 h5 => ?_) a4 h4
  obtain ⟨wo, hwo⟩ : ∃ wo, wr.alloc (.cells #[.int .i64 0, .string ⟨#[]⟩, .int .i64 0, .string ⟨#[]⟩, .slice none 0 0, .slice none 0 0] 27 (0, 0)) = wo := ⟨_, rfl⟩
  obtain ⟨D, hD⟩ : ∃ D, wr.heap.size = D := ⟨_, rfl⟩
  have hbz := FsOk.base hm.fs
  have hblk : ∀ b, (Value.slice Aq frs.length cq).ownBlock = some b → w.heap.size + 3 ≤ b ∧ b < D := by rw [← hD]; exact hm.own.lt
  have hmo : TMem w wo frs Aq cq D := by
    rw [← hwo, ← hD]
    exact ⟨hm.own.alloc _, hm.fs.keep (fun b h1 h2 h3 => heap_old h2 rfl) (fun _ _ e => e) (Nat.le_refl _), ⟨heap_old (by omega) hm.z.1, heap_old (by omega) hm.z.2.1, heap_old (by omega) hm.z.2.2⟩, hm.B.alloc (by omega) _⟩
  have hDo : D < wo.heap.size := by rw [← hwo, ← hD]; simp
  have hdo : wo.heap[D]? = some (.cells #[.int .i64 0, .string ⟨#[]⟩, .int .i64 0, .string ⟨#[]⟩, .slice none 0 0, .slice none 0 0] 27 (0, 0)) := by rw [← hwo, ← hD]; exact heap_at rfl
  rw [hD] at h5
  rw [hwo]
  clear hwo hm hfr h2 h3 h4
  show Code.wp _ _ _ a5 wo
  refine wp_seq ?_
  refine tr_app_wp hx4 hi (by omega) hl39 hmo hDo hblk (fun hb gg cap a6 w6 h6 hm6 => ?_) (fun hb40 a6 h6 => ?_) a5 h5
  · refine tr_then (inBlock_exit ?_)
    exact ⟨k - 1, by omega, i + 1, n + 1, _, _, _, by omega, hn2, by simp; omega, hm6, (hrun.symm.trans (runT_app hb hlim)).symm, h6⟩
  refine wp_seq ?_
  refine tr_abs_wp hx4 hi (by omega) hl39 hmo hDo hblk hdo (fun hb c a hrd => ?_) (fun hb s a m hrd hb2 => ?_) (fun hb s a m hrd hb2 gg cap t0 t1 a7 w7 h7 hm7 => ?_) (fun hb91 a7 h7 => ?_) a6 h6
  · have e := hrun.symm.trans ((runT_abs hb hlim).1 c a hrd)
    exact ⟨hne c a e, hR c a e⟩
  · exact hR 11 a (hrun.symm.trans ((runT_abs hb hlim).2.1 s a m hrd hb2))
  · have h1 := (rd_ok x 40 (i + 1) 0 s a m hrd).2.1
    have h2 : a < x.size := byteAt_lt (by omega)
    refine tr_then (inBlock_exit ?_)
    exact ⟨x.size - (a + 1), by omega, a + 1, n + 1, _, _, _, by omega, hn2, by simp; omega, hm7, (hrun.symm.trans ((runT_abs hb hlim).2.2 s a m hrd hb2)).symm, h7⟩
  -- a leaf, then the inner loop
  refine wp_seq ?_
  have hpop : ∀ (i2 : Nat) (v : Tv) (dc : List Value) (a8 : Act) (w8 : World), i < i2 → i2 ≤ x.size → Frm 330 [(0, .string x), (2, .pointer (some ⟨w.heap.size, 0, none⟩)), (3, .pointer (some ⟨w.heap.size + 1, 0, none⟩)), (4, .slice Aq frs.length cq), (5, .int .i64 (i2 : Nat)), (6, .int .i64 (n + 1 : Nat)), (7, .pointer (some ⟨w.heap.size + 2, 0, none⟩)), (8, .pointer (some ⟨D, 0, none⟩))] a8 → LeafAt w wo w8 frs Aq cq D v dc → foldT x (frs.map (·.f)) v i2 (n + 1) = R0 →
      Code.wp Tryd.prog (Code.block 6 c_tr_popl) (Exit.inBlock 1 (Exit.then (fun a' w' => ∃ m, m < k ∧ (fun k a' w' => ∃ (i n : Nat) (frs : List F7) (Aq : Option Addr) (cq : Nat), i + k = x.size ∧ n ≤ 200 ∧ frs.length ≤ 40 ∧ TMem w w' frs Aq cq w'.heap.size ∧ runT x (frs.map (·.f)) i n = R0 ∧ Frm 330 [(0, .string x), (2, .pointer (some ⟨w.heap.size, 0, none⟩)), (3, .pointer (some ⟨w.heap.size + 1, 0, none⟩)), (4, .slice Aq frs.length cq), (5, .int .i64 (i : Nat)), (6, .int .i64 (n : Nat)), (7, .pointer (some ⟨w.heap.size + 2, 0, none⟩))] a') m a' w') Q)) a8 w8 := by
    intro i2 v dc a8 w8 hii hix h8 hlf hfold
    refine wp_block ?_
    have hbz2 := FsOk.base hlf.m.fs
    refine tr_popl_wp (Aq := Aq) (R0 := R0) hx4 (by omega) hix ⟨hlf.m, Nat.le_refl _, by have := hlf.le; omega, hlf.d, tmRep.keep hlf.r (fun _ _ => rfl) (fun b hb => ⟨by omega, hb.2, fun e => by have := (hblk b e).2; omega, by omega⟩), fun q e => (hblk q e).2⟩ hfold ?_ ?_ ?_ ?_ ?_ a8 h8
    · exact hR
    · exact hM
    · exact hF
    · exact hG
    · intro i3 frs2 Aq2 cq2 a9 w9 h1 h2 h3 h4 h5 h6
      refine inBlock_exit ?_
      exact ⟨x.size - i3, by omega, i3, n + 1, frs2, Aq2, cq2, by omega, hn2, h3, h5, h6, h4⟩
  refine wp_seq ?_
  refine tr_lh_wp hi (fun hb a8 h8 => ?_) (fun hb a8 h8 => ?_) a7 h7
  · refine wp_cond_true (h8.eval (by simp)) ?_
    have h8' : Frm 330 [(0, .string x), (2, .pointer (some ⟨w.heap.size, 0, none⟩)), (3, .pointer (some ⟨w.heap.size + 1, 0, none⟩)), (4, .slice Aq frs.length cq), (5, .int .i64 (i : Nat)), (6, .int .i64 (n + 1 : Nat)), (7, .pointer (some ⟨w.heap.size + 2, 0, none⟩)), (8, .pointer (some ⟨D, 0, none⟩))] a8 := by
      obtain ⟨f1, f2, g0, g1, g2, g3, g4, g5, g6, g7, _⟩ := h8
      exact ⟨f1, f2, g0, g1, g2, g3, g4, g5, g6, g7, trivial⟩
    obtain ⟨e1, e2⟩ := runT_var hb hlim (op := frs.map (·.f))
    refine tr_num_wp hx4 hi hmo hDo hblk hdo (fun e => ?_) (fun e dc a9 w9 h9 hlf => ?_) a8 h8'
    · exact hR 11 (i + 1) (hrun.symm.trans (e1 e))
    · have hb3 := numF_bound x (i + 1) (by omega)
      exact hpop _ _ dc a9 w9 (by omega) hb3.2 h9 hlf ((e2 e).symm.trans hrun)
  · refine wp_cond_false (h8.eval (by simp)) ?_
    have h8' : Frm 330 [(0, .string x), (2, .pointer (some ⟨w.heap.size, 0, none⟩)), (3, .pointer (some ⟨w.heap.size + 1, 0, none⟩)), (4, .slice Aq frs.length cq), (5, .int .i64 (i : Nat)), (6, .int .i64 (n + 1 : Nat)), (7, .pointer (some ⟨w.heap.size + 2, 0, none⟩)), (8, .pointer (some ⟨D, 0, none⟩))] a8 := by
      obtain ⟨f1, f2, g0, g1, g2, g3, g4, g5, g6, g7, _⟩ := h8
      exact ⟨f1, f2, g0, g1, g2, g3, g4, g5, g6, g7, trivial⟩
    have hlow : 97 ≤ byteAt x i ∧ byteAt x i ≤ 122 := by unfold startB at hst; omega
    obtain ⟨e1, e2⟩ := runT_con hlow hlim (op := frs.map (·.f))
    refine tr_con_wp hx4 hi hmo hDo hblk hdo (fun e => ?_) (fun e c b hrd => ?_) (fun e s b m hrd dc a9 w9 h9 hlf => ?_) a8 h8'
    · exact hR 11 _ (hrun.symm.trans (e1 e))
    · have e3 := hrun.symm.trans ((e2 e).1 c b hrd)
      exact ⟨hne c b e3, hR c b e3⟩
    · have hb3 := rd_ok x 40 (nameE x i + 1) 0 s b m hrd
      have hb4 := nameG_ge x i (x.size + 1 - i) i
      have hb5 : i ≤ nameE x i := hb4
      exact hpop _ _ dc a9 w9 (by omega) hb3.1 h9 hlf (((e2 e).2 s b m hrd).symm.trans hrun)
set_option maxRecDepth 1000000 in
theorem open_tr_ret {P : Act → Prop} {v0 v1 : Value} (h : ∀ x0 x1 x4 x5 x6 x7 x8 x9 x10 x11 x12 x13 x14 x15 x16 x17 x18 x19 x20 x21 x22 x23 x24 x25 x26 x27 x28 x29 x30 x31 x32 x33 x34 x35 x36 x37 x38 x39 x40 x41 x42 x43 x44 x45 x46 x47 x48 x49 x50 x51 x52 x53 x54 x55 x56 x57 x58 x59 x60 x61 x62 x63 x64 x65 x66 x67 x68 x69 x70 x71 x72 x73 x74 x75 x76 x77 x78 x79 x80 x81 x82 x83 x84 x85 x86 x87 x88 x89 x90 x91 x92 x93 x94 x95 x96 x97 x98 x99 x100 x101 x102 x103 x104 x105 x106 x107 x108 x109 x110 x111 x112 x113 x114 x115 x116 x117 x118 x119 x120 x121 x122 x123 x124 x125 x126 x127 x128 x129 x130 x131 x132 x133 x134 x135 x136 x137 x138 x139 x140 x141 x142 x143 x144 x145 x146 x147 x148 x149 x150 x151 x152 x153 x154 x155 x156 x157 x158 x159 x160 x161 x162 x163 x164 x165 x166 x167 x168 x169 x170 x171 x172 x173 x174 x175 x176 x177 x178 x179 x180 x181 x182 x183 x184 x185 x186 x187 x188 x189 x190 x191 x192 x193 x194 x195 x196 x197 x198 x199 x200 x201 x202 x203 x204 x205 x206 x207 x208 x209 x210 x211 x212 x213 x214 x215 x216 x217 x218 x219 x220 x221 x222 x223 x224 x225 x226 x227 x228 x229 x230 x231 x232 x233 x234 x235 x236 x237 x238 x239 x240 x241 x242 x243 x244 x245 x246 x247 x248 x249 x250 x251 x252 x253 x254 x255 x256 x257 x258 x259 x260 x261 x262 x263 x264 x265 x266 x267 x268 x269 x270 x271 x272 x273 x274 x275 x276 x277 x278 x279 x280 x281 x282 x283 x284 x285 x286 x287 x288 x289 x290 x291 x292 x293 x294 x295 x296 x297 x298 x299 x300 x301 x302 x303 x304 x305 x306 x307 x308 x309 x310 x311 x312 x313 x314 x315 x316 x317 x318 x319 x320 x321 x322 x323 x324 x325 x326 x327 x328 x329 : Value, P ⟨(x0 :: x1 :: v0 :: v1 :: x4 :: x5 :: x6 :: x7 :: x8 :: x9 :: x10 :: x11 :: x12 :: x13 :: x14 :: x15 :: x16 :: x17 :: x18 :: x19 :: x20 :: x21 :: x22 :: x23 :: x24 :: x25 :: x26 :: x27 :: x28 :: x29 :: x30 :: x31 :: x32 :: x33 :: x34 :: x35 :: x36 :: x37 :: x38 :: x39 :: x40 :: x41 :: x42 :: x43 :: x44 :: x45 :: x46 :: x47 :: x48 :: x49 :: x50 :: x51 :: x52 :: x53 :: x54 :: x55 :: x56 :: x57 :: x58 :: x59 :: x60 :: x61 :: x62 :: x63 :: x64 :: x65 :: x66 :: x67 :: x68 :: x69 :: x70 :: x71 :: x72 :: x73 :: x74 :: x75 :: x76 :: x77 :: x78 :: x79 :: x80 :: x81 :: x82 :: x83 :: x84 :: x85 :: x86 :: x87 :: x88 :: x89 :: x90 :: x91 :: x92 :: x93 :: x94 :: x95 :: x96 :: x97 :: x98 :: x99 :: x100 :: x101 :: x102 :: x103 :: x104 :: x105 :: x106 :: x107 :: x108 :: x109 :: x110 :: x111 :: x112 :: x113 :: x114 :: x115 :: x116 :: x117 :: x118 :: x119 :: x120 :: x121 :: x122 :: x123 :: x124 :: x125 :: x126 :: x127 :: x128 :: x129 :: x130 :: x131 :: x132 :: x133 :: x134 :: x135 :: x136 :: x137 :: x138 :: x139 :: x140 :: x141 :: x142 :: x143 :: x144 :: x145 :: x146 :: x147 :: x148 :: x149 :: x150 :: x151 :: x152 :: x153 :: x154 :: x155 :: x156 :: x157 :: x158 :: x159 :: x160 :: x161 :: x162 :: x163 :: x164 :: x165 :: x166 :: x167 :: x168 :: x169 :: x170 :: x171 :: x172 :: x173 :: x174 :: x175 :: x176 :: x177 :: x178 :: x179 :: x180 :: x181 :: x182 :: x183 :: x184 :: x185 :: x186 :: x187 :: x188 :: x189 :: x190 :: x191 :: x192 :: x193 :: x194 :: x195 :: x196 :: x197 :: x198 :: x199 :: x200 :: x201 :: x202 :: x203 :: x204 :: x205 :: x206 :: x207 :: x208 :: x209 :: x210 :: x211 :: x212 :: x213 :: x214 :: x215 :: x216 :: x217 :: x218 :: x219 :: x220 :: x221 :: x222 :: x223 :: x224 :: x225 :: x226 :: x227 :: x228 :: x229 :: x230 :: x231 :: x232 :: x233 :: x234 :: x235 :: x236 :: x237 :: x238 :: x239 :: x240 :: x241 :: x242 :: x243 :: x244 :: x245 :: x246 :: x247 :: x248 :: x249 :: x250 :: x251 :: x252 :: x253 :: x254 :: x255 :: x256 :: x257 :: x258 :: x259 :: x260 :: x261 :: x262 :: x263 :: x264 :: x265 :: x266 :: x267 :: x268 :: x269 :: x270 :: x271 :: x272 :: x273 :: x274 :: x275 :: x276 :: x277 :: x278 :: x279 :: x280 :: x281 :: x282 :: x283 :: x284 :: x285 :: x286 :: x287 :: x288 :: x289 :: x290 :: x291 :: x292 :: x293 :: x294 :: x295 :: x296 :: x297 :: x298 :: x299 :: x300 :: x301 :: x302 :: x303 :: x304 :: x305 :: x306 :: x307 :: x308 :: x309 :: x310 :: x311 :: x312 :: x313 :: x314 :: x315 :: x316 :: x317 :: x318 :: x319 :: x320 :: x321 :: x322 :: x323 :: x324 :: x325 :: x326 :: x327 :: x328 :: x329 :: []).toArray, []⟩) : ∀ a, Frm 330 [(2, v0), (3, v1)] a → P a := by
  rintro a ⟨h1, h2, e0, e1, _⟩
  revert e0 e1
  refine frame_tr (P := fun a => a.tmps.toList[2]? = some v0 → a.tmps.toList[3]? = some v1 → P a) ?_ a h1 h2
  intro x0 x1 x2 x3 x4 x5 x6 x7 x8 x9 x10 x11 x12 x13 x14 x15 x16 x17 x18 x19 x20 x21 x22 x23 x24 x25 x26 x27 x28 x29 x30 x31 x32 x33 x34 x35 x36 x37 x38 x39 x40 x41 x42 x43 x44 x45 x46 x47 x48 x49 x50 x51 x52 x53 x54 x55 x56 x57 x58 x59 x60 x61 x62 x63 x64 x65 x66 x67 x68 x69 x70 x71 x72 x73 x74 x75 x76 x77 x78 x79 x80 x81 x82 x83 x84 x85 x86 x87 x88 x89 x90 x91 x92 x93 x94 x95 x96 x97 x98 x99 x100 x101 x102 x103 x104 x105 x106 x107 x108 x109 x110 x111 x112 x113 x114 x115 x116 x117 x118 x119 x120 x121 x122 x123 x124 x125 x126 x127 x128 x129 x130 x131 x132 x133 x134 x135 x136 x137 x138 x139 x140 x141 x142 x143 x144 x145 x146 x147 x148 x149 x150 x151 x152 x153 x154 x155 x156 x157 x158 x159 x160 x161 x162 x163 x164 x165 x166 x167 x168 x169 x170 x171 x172 x173 x174 x175 x176 x177 x178 x179 x180 x181 x182 x183 x184 x185 x186 x187 x188 x189 x190 x191 x192 x193 x194 x195 x196 x197 x198 x199 x200 x201 x202 x203 x204 x205 x206 x207 x208 x209 x210 x211 x212 x213 x214 x215 x216 x217 x218 x219 x220 x221 x222 x223 x224 x225 x226 x227 x228 x229 x230 x231 x232 x233 x234 x235 x236 x237 x238 x239 x240 x241 x242 x243 x244 x245 x246 x247 x248 x249 x250 x251 x252 x253 x254 x255 x256 x257 x258 x259 x260 x261 x262 x263 x264 x265 x266 x267 x268 x269 x270 x271 x272 x273 x274 x275 x276 x277 x278 x279 x280 x281 x282 x283 x284 x285 x286 x287 x288 x289 x290 x291 x292 x293 x294 x295 x296 x297 x298 x299 x300 x301 x302 x303 x304 x305 x306 x307 x308 x309 x310 x311 x312 x313 x314 x315 x316 x317 x318 x319 x320 x321 x322 x323 x324 x325 x326 x327 x328 x329 e0 e1
  obtain rfl : x2 = v0 := Option.some.inj e0
  obtain rfl : x3 = v1 := Option.some.inj e1
  exact h x0 x1 x4 x5 x6 x7 x8 x9 x10 x11 x12 x13 x14 x15 x16 x17 x18 x19 x20 x21 x22 x23 x24 x25 x26 x27 x28 x29 x30 x31 x32 x33 x34 x35 x36 x37 x38 x39 x40 x41 x42 x43 x44 x45 x46 x47 x48 x49 x50 x51 x52 x53 x54 x55 x56 x57 x58 x59 x60 x61 x62 x63 x64 x65 x66 x67 x68 x69 x70 x71 x72 x73 x74 x75 x76 x77 x78 x79 x80 x81 x82 x83 x84 x85 x86 x87 x88 x89 x90 x91 x92 x93 x94 x95 x96 x97 x98 x99 x100 x101 x102 x103 x104 x105 x106 x107 x108 x109 x110 x111 x112 x113 x114 x115 x116 x117 x118 x119 x120 x121 x122 x123 x124 x125 x126 x127 x128 x129 x130 x131 x132 x133 x134 x135 x136 x137 x138 x139 x140 x141 x142 x143 x144 x145 x146 x147 x148 x149 x150 x151 x152 x153 x154 x155 x156 x157 x158 x159 x160 x161 x162 x163 x164 x165 x166 x167 x168 x169 x170 x171 x172 x173 x174 x175 x176 x177 x178 x179 x180 x181 x182 x183 x184 x185 x186 x187 x188 x189 x190 x191 x192 x193 x194 x195 x196 x197 x198 x199 x200 x201 x202 x203 x204 x205 x206 x207 x208 x209 x210 x211 x212 x213 x214 x215 x216 x217 x218 x219 x220 x221 x222 x223 x224 x225 x226 x227 x228 x229 x230 x231 x232 x233 x234 x235 x236 x237 x238 x239 x240 x241 x242 x243 x244 x245 x246 x247 x248 x249 x250 x251 x252 x253 x254 x255 x256 x257 x258 x259 x260 x261 x262 x263 x264 x265 x266 x267 x268 x269 x270 x271 x272 x273 x274 x275 x276 x277 x278 x279 x280 x281 x282 x283 x284 x285 x286 x287 x288 x289 x290 x291 x292 x293 x294 x295 x296 x297 x298 x299 x300 x301 x302 x303 x304 x305 x306 x307 x308 x309 x310 x311 x312 x313 x314 x315 x316 x317 x318 x319 x320 x321 x322 x323 x324 x325 x326 x327 x328 x329
set_option maxRecDepth 1000000 in
theorem tr_ret_wp {R : Ending → World → Prop} {w w' : World} {e0 e1 e2 e3 e4 e5 : Value} {c j : Int} (h0 : w'.heap[w.heap.size]? = some (.cells #[e0, e1, e2, e3, e4, e5] 27 (0, 0))) (h1 : w'.heap[w.heap.size + 1]? = some (.cells #[.int .i64 c, .int .i64 j] 29 (0, 0))) (hR : R (.returned (.tuple #[.agg #[e0, e1, e2, e3, e4, e5], .agg #[.int .i64 c, .int .i64 j]])) w') :
    ∀ ac, Frm 330 [(2, .pointer (some ⟨w.heap.size, 0, none⟩)), (3, .pointer (some ⟨w.heap.size + 1, 0, none⟩))] ac → bodyPost Tryd.prog Tryd.f9 R .ret ac w' := by
  refine open_tr_ret (P := fun a => bodyPost Tryd.prog Tryd.f9 R .ret a w') ?_
  intro x0 x1 x4 x5 x6 x7 x8 x9 x10 x11 x12 x13 x14 x15 x16 x17 x18 x19 x20 x21 x22 x23 x24 x25 x26 x27 x28 x29 x30 x31 x32 x33 x34 x35 x36 x37 x38 x39 x40 x41 x42 x43 x44 x45 x46 x47 x48 x49 x50 x51 x52 x53 x54 x55 x56 x57 x58 x59 x60 x61 x62 x63 x64 x65 x66 x67 x68 x69 x70 x71 x72 x73 x74 x75 x76 x77 x78 x79 x80 x81 x82 x83 x84 x85 x86 x87 x88 x89 x90 x91 x92 x93 x94 x95 x96 x97 x98 x99 x100 x101 x102 x103 x104 x105 x106 x107 x108 x109 x110 x111 x112 x113 x114 x115 x116 x117 x118 x119 x120 x121 x122 x123 x124 x125 x126 x127 x128 x129 x130 x131 x132 x133 x134 x135 x136 x137 x138 x139 x140 x141 x142 x143 x144 x145 x146 x147 x148 x149 x150 x151 x152 x153 x154 x155 x156 x157 x158 x159 x160 x161 x162 x163 x164 x165 x166 x167 x168 x169 x170 x171 x172 x173 x174 x175 x176 x177 x178 x179 x180 x181 x182 x183 x184 x185 x186 x187 x188 x189 x190 x191 x192 x193 x194 x195 x196 x197 x198 x199 x200 x201 x202 x203 x204 x205 x206 x207 x208 x209 x210 x211 x212 x213 x214 x215 x216 x217 x218 x219 x220 x221 x222 x223 x224 x225 x226 x227 x228 x229 x230 x231 x232 x233 x234 x235 x236 x237 x238 x239 x240 x241 x242 x243 x244 x245 x246 x247 x248 x249 x250 x251 x252 x253 x254 x255 x256 x257 x258 x259 x260 x261 x262 x263 x264 x265 x266 x267 x268 x269 x270 x271 x272 x273 x274 x275 x276 x277 x278 x279 x280 x281 x282 x283 x284 x285 x286 x287 x288 x289 x290 x291 x292 x293 x294 x295 x296 x297 x298 x299 x300 x301 x302 x303 x304 x305 x306 x307 x308 x309 x310 x311 x312 x313 x314 x315 x316 x317 x318 x319 x320 x321 x322 x323 x324 x325 x326 x327 x328 x329
  have h0_0 := cv0 h0
  have h0_1 := cv1 h0
  have h0_2 := cv2 h0
  have h0_3 := cv3 h0
  have h0_4 := cv4 h0
  have h0_5 := cv5 h0
  have h0_l := lt_heap h0
  have H0 := Lib.hid h0
  clear h0
  have h1_0 := cv0 h1
  have h1_1 := cv1 h1
  have h1_l := lt_heap h1
  have H1 := Lib.hid h1
  clear h1
  refine bodyPost_ret (v := .tuple #[.agg #[e0, e1, e2, e3, e4, e5], .agg #[.int .i64 c, .int .i64 j]]) (by simp [results, Tryd.results9, go_sem, h0_0, h0_1, h0_2, h0_3, h0_4, h0_5, h0_l, h1_0, h1_1, h1_l]) rfl ?_
  exact hR

set_option maxRecDepth 100000 in
set_option maxHeartbeats 8000000 in
theorem termRead_any (x : ByteArray) (w : World) (hx : x.size ≤ maxLen) : Calls Tryd.prog 9 #[.string x] w (TReadAt x w) := by
  unfold maxLen at hx
  have hbad0 : ∀ (c : Nat) (j : Int) (w' : World), tpC x = (c, j) → c ≠ 0 → Below w.heap.size w w' → TReadAt x w (.returned (.tuple #[.agg #[.int .i64 0, .string ⟨#[]⟩, .int .i64 0, .string ⟨#[]⟩, .slice none 0 0, .slice none 0 0], .agg #[.int .i64 c, .int .i64 j]])) w' := by
    intro c j w' h1 h2 h3
    unfold TReadAt
    rw [tpT_bad (by rw [h1]; exact h2), h1]
    exact ⟨_, rfl, tmZT_repU, h3⟩
  by_cases hl : 4000 < x.size
  · have HF := Lib.hid (fun w' => hbad0 1 0 w' (tpC_long hl) (by decide))
    clear hbad0
    go_enter Tryd.func9, Tryd.ntmps9
    go_wp2_with fail
    refine bodyPost_ret (v := .tuple #[.agg #[.int .i64 0, .string ⟨#[]⟩, .int .i64 0, .string ⟨#[]⟩, .slice none 0 0, .slice none 0 0], .agg #[.int .i64 1, .int .i64 0]]) (by simp [results, Tryd.results9, go_sem]) rfl ?_
    exact HF.out _ (by go_grown)
  have hx4 : x.size ≤ 4000 := by omega
  have hrn := tp_run hl
  obtain ⟨R0, hR0⟩ : ∃ R, runT x [] 0 0 = R := ⟨_, rfl⟩
  rw [hR0] at hrn
  have hbad : ∀ (c j : Nat), R0 = .bad c j → ∀ w', Below w.heap.size w w' → TReadAt x w (.returned (.tuple #[.agg #[.int .i64 0, .string ⟨#[]⟩, .int .i64 0, .string ⟨#[]⟩, .slice none 0 0, .slice none 0 0], .agg #[.int .i64 (c : Nat), .int .i64 (j : Nat)]])) w' := fun c j e w' hw => hbad0 c j w' (hrn.1 c j e).1 (hrn.1 c j e).2 hw
  have hmore : ∀ (v : Tv) (i : Nat), R0 = .ok v i → i < x.size → ∀ w', Below w.heap.size w w' → TReadAt x w (.returned (.tuple #[.agg #[.int .i64 0, .string ⟨#[]⟩, .int .i64 0, .string ⟨#[]⟩, .slice none 0 0, .slice none 0 0], .agg #[.int .i64 11, .int .i64 (i : Nat)]])) w' := fun v i e hi w' hw => hbad0 11 i w' ((hrn.2 v i e).1 hi) (by decide) hw
  have hflt : ∀ (v : Tv) (i : Nat), R0 = .ok v i → ¬ i < x.size → (tmFault v.tm).1 ≠ 0 → ∀ w', Below w.heap.size w w' → TReadAt x w (.returned (.tuple #[.agg #[.int .i64 0, .string ⟨#[]⟩, .int .i64 0, .string ⟨#[]⟩, .slice none 0 0, .slice none 0 0], .agg #[.int .i64 ((tmFault v.tm).1 : Nat), .int .i64 (tmFault v.tm).2]])) w' := fun v i e hi hc w' hw => hbad0 _ _ w' ((hrn.2 v i e).2 hi).1 hc hw
  have hgood : ∀ (v : Tv) (i : Nat), R0 = .ok v i → ¬ i < x.size → (tmFault v.tm).1 = 0 → ∀ (es : List Value) (w' : World), tmRep.R w' (Fresh w w') v.tm es → Below w.heap.size w w' → TReadAt x w (.returned (.tuple #[.agg es.toArray, .agg #[.int .i64 0, .int .i64 0]])) w' := by
    intro v i e hi hc es w' h1 h2
    obtain ⟨h3, h4⟩ := (hrn.2 v i e).2 hi
    obtain ⟨_, _, _, _, _, _, _, h5⟩ := tmFault_zero hc
    unfold TReadAt
    rw [h4 hc, h3, h5]
    exact ⟨_, rfl, h1, h2⟩
  have hne : ∀ (c j : Nat), R0 = .bad c j → c ≠ 0 := fun c j e => (hrn.1 c j e).2
  clear hbad0 hrn
  have HBAD := Lib.hid hbad
  have HMORE := Lib.hid hmore
  have HFLT := Lib.hid hflt
  have HGOOD := Lib.hid hgood
  have HNE := Lib.hid hne
  clear hbad hmore hflt hgood hne
  go_enter Tryd.func9, Tryd.ntmps9
  go_wp2_with fail
  refine tr_loop_wp (w := w) (R0 := R0) hx4 ⟨heap_old (by simp; omega) (heap_old (by simp) (heap_at rfl)), heap_old (by simp) (heap_at (by simp)), heap_at (by simp)⟩ (by go_grown) (by simp) hR0 HNE.out ?_ ?_ ?_ ?_ _ (id ⟨rfl, rfl, rfl, rfl, rfl, rfl, rfl, rfl, rfl, trivial⟩)
  · intro c j e a' w' hf h0 h1 hw
    exact tr_ret_wp h0 h1 (HBAD.out c j e w' hw) a' hf
  · intro v i e hi a' w' hf h0 h1 hw
    exact tr_ret_wp h0 h1 (HMORE.out v i e hi w' hw) a' hf
  · intro v i e hi hc a' w' hf h0 h1 hw
    exact tr_ret_wp h0 h1 (HFLT.out v i e hi hc w' hw) a' hf
  · intro v i e hi hc es a' w' hf h0 h1 hw hr
    obtain ⟨s1, A1, n1, c1, B1, m1, d1, rfl, _, _⟩ := Tm.shape hr
    exact tr_ret_wp h0 h1 (HGOOD.out v i e hi hc _ w' hr hw) a' hf
end

section
open Go Go.RowKit
set_option linter.unusedSimpArgs false
set_option linter.unusedVariables false

/-- One part in a block of its own. -/
theorem Tm.one_lit {W : World} {S : Nat → Prop} {x : Tm} {ds : List Value} {blk : Nat} {T : TypeId} {fr : Nat × Nat} (hx : tmRep.R W S x ds) (hb : W.heap[blk]? = some (.cells ds.toArray T fr)) (hS : S blk) :
    tmRep.Sl W S (.slice (some ⟨blk, 0, none⟩) 1 1) [x] :=
  ⟨_, 1, 1, rfl, rfl, by simp [maxLen], fun _ => ⟨blk, 0, ds, rfl, hS, Rep.All.single hx, fun j u hj => by rw [Nat.zero_add]; exact cell_heap hb (by simpa using hj)⟩⟩
theorem Tm.two_lit {W : World} {S : Nat → Prop} {f x : Tm} {cs ds : List Value} {blk : Nat} {T : TypeId} {fr : Nat × Nat} (hf : tmRep.R W S f cs) (hx : tmRep.R W S x ds) (hb : W.heap[blk]? = some (.cells (cs ++ ds).toArray T fr)) (hS : S blk) :
    tmRep.Sl W S (.slice (some ⟨blk, 0, none⟩) 2 2) [f, x] :=
  ⟨_, 2, 2, rfl, rfl, by simp [maxLen], fun _ => ⟨blk, 0, cs ++ ds, rfl, hS, ⟨cs, ds, rfl, hf, Rep.All.single hx⟩, fun j u hj => by rw [Nat.zero_add]; exact cell_heap hb (by simpa using hj)⟩⟩

def tmConst (nm : ByteArray) (t : Ty) : Tm := .mk ⟨1, nm, 0, t⟩ []
def tmApp (f x : Tm) : Tm := .mk ⟨4, bNil, 0, noTy⟩ [f, x]

def tvId : Tv := .abs .e (.var 0)
/-- What identity returns. -/
def IdAt (w : World) (e : Ending) (w' : World) : Prop := ∃ es : List Value, e = .returned (.agg es.toArray) ∧ tmRep.R w' (Fresh w w') tvId.tm es ∧ Below w.heap.size w w'

set_option maxRecDepth 100000 in
set_option maxHeartbeats 400000 in
theorem identity_any (w : World) :
    Calls Tryd.prog 8 #[] w (IdAt w) := by
  go_enter Tryd.func8, Tryd.ntmps8
  go_upto_region 1 with (fail)
  go_cut [] (fun wx => ∃ es : List Value, tmRep.R wx (Fresh w wx) tvId.tm es ∧ wx.heap[w.heap.size]? = some (.cells es.toArray 27 (0, 0)) ∧ Below w.heap.size w wx)
  case first =>
    go_wp2_with fail
    refine (base_any _ _ (by decide +kernel)).mono ?_
    rintro e w1 ⟨rfl, h1, hw1⟩
    clear h1
    have z1 : w.heap.size + 1 ≤ w1.heap.size := by have := hw1.size; simpa using this
    have h0 := (hw1.block w.heap.size (by simp)).trans (heap_at rfl)
    have hB : Below w.heap.size w w1 := ((Below.refl _ w).alloc (Nat.le_refl _) _).trans (hw1.mono (by simp))
    have HW1 := Lib.hid hw1
    have HB := Lib.hid hB
    clear hw1 hB
    have h0_0 := cv0 h0
    have h0_1 := cv1 h0
    have h0_2 := cv2 h0
    have h0_3 := cv3 h0
    have h0_4 := cv4 h0
    have h0_5 := cv5 h0
    have h0_f0 := free_heap h0 0
    have h0_f1 := free_heap h0 1
    have h0_f2 := free_heap h0 2
    have h0_f3 := free_heap h0 3
    have h0_f4 := free_heap h0 4
    have h0_f5 := free_heap h0 5
    have h0_l := lt_heap h0
    have H0 := Lib.hid h0
    clear h0
    go_wp2_with fail
    go_meet
    refine ⟨[.int .i64 3, .string bNil, .int .i64 0, .string bE, .slice none 0 0, .slice (some ⟨w1.heap.size, 0, none⟩) 1 1], ?_, ?_, ?_⟩
    · have hv : ∀ (W : World) (S : Nat → Prop), tmRep.R W S (Tv.var 0).tm [.int .i64 2, .string ⟨#[]⟩, .int .i64 0, .string ⟨#[]⟩, .slice none 0 0, .slice none 0 0] := fun W S =>
        Tm.shut (a := ⟨2, bNil, ((0 : Nat) : Int), noTy⟩) (l := []) (by decide +kernel) (Ty.In.mk_ (by decide +kernel) rfl (by omega) (by omega)) Rep.Sl.nil
      exact Tm.shut (a := ⟨3, bNil, 0, Sy.e.ty⟩) (l := [(Tv.var 0).tm]) (by decide +kernel) (Ty.In.mk_ (by decide +kernel) rfl (by omega) (by omega))
        (Tm.one_lit (hv _ _) (heap_at size6.symm) ⟨by omega, by rw [World.size_alloc]; exact Nat.lt_succ_of_le (Nat.le_of_eq size6.symm)⟩)
    · exact heap_old (lt6 h0_l) (at6 H0.out)
    · exact (below6 HB.out (Nat.le_refl _)).alloc (le6 (by omega)) _
  case rest =>
    obtain ⟨es, hu, k0, hb⟩ := hcut
    rename World => wx
    obtain ⟨s1, A1, n1, c1, B1, m1, d1, rfl, _, _⟩ := Tm.shape hu
    have hfin : IdAt w (.returned (.agg ([.int .i64 tvId.tm.lab.kind, .string tvId.tm.lab.nm, .int .i64 tvId.tm.lab.ix, .string s1, .slice A1 n1 c1, .slice B1 m1 d1]).toArray)) wx := ⟨_, rfl, hu, hb⟩
    have HU := Lib.hid hu
    have HB := Lib.hid hb
    have HFIN := Lib.hid hfin
    clear hu hb hfin
    have k0_0 := cv0 k0
    have k0_1 := cv1 k0
    have k0_2 := cv2 k0
    have k0_3 := cv3 k0
    have k0_4 := cv4 k0
    have k0_5 := cv5 k0
    have k0_l := lt_heap k0
    have K0 := Lib.hid k0
    clear k0
    go_wp2_with fail
    refine bodyPost_ret (v := .agg #[.int .i64 tvId.tm.lab.kind, .string tvId.tm.lab.nm, .int .i64 tvId.tm.lab.ix, .string s1, .slice A1 n1 c1, .slice B1 m1 d1]) (by simp [results, Tryd.results8, go_sem, k0_0, k0_1, k0_2, k0_3, k0_4, k0_5, k0_l]) rfl ?_
    exact HFIN.out
end

section
open Go Go.RowKit
set_option linter.unusedSimpArgs false
set_option linter.unusedVariables false

set_option maxHeartbeats 400000 in
theorem eqTy_any : ∀ (N : Nat) (x y : Ty) (a0 a1 b0 b1 : Value) (w : World) (S : Nat → Prop) (hN : x.size ≤ N) (hx : x.In w S a0 a1) (hy : y.In w S b0 b1) (hS : ∀ b, S b → b < w.heap.size),
    Calls Tryd.prog 14 #[.agg #[a0, a1], .agg #[b0, b1]] w fun e w' => e = .returned (.bool (x.beq y)) ∧ Below w.heap.size w w' := by
  intro N
  induction N with
  | zero => intro x; cases x; intros; simp [Ty.size] at *
  | succ N ih =>
  intro x y a0 a1 b0 b1 w S hN hx hy hS
  have IH := Lib.hid ih
  clear ih
  obtain ⟨s, l⟩ := x
  obtain ⟨s', l'⟩ := y
  unfold Ty.In at hx hy
  obtain ⟨rfl, hs, A, n, c, rfl, rfl, hn, hA⟩ := hx
  obtain ⟨rfl, hs', A', n', c', rfl, rfl, hn', hA'⟩ := hy
  unfold maxLen at hn hn'
  have HA := Lib.hid hA
  have HA' := Lib.hid hA'
  clear hA hA'
  have HS := Lib.hid hS
  clear hS
  have HN := Lib.hid hN
  clear hN
  by_cases hss : s = s'
  case neg =>
    have hss' : (s.toList == s'.toList) = false := bytes_ne hss
    go_enter Tryd.func14, Tryd.ntmps14
    go_wp2_with fail
    go_returns
    exact ⟨by simp [Ty.beq, hss], ((Below.refl _ _).alloc (Nat.le_refl _) _).alloc (by simp) _⟩
  subst hss
  by_cases hll : l.length = l'.length
  case neg =>
    have hss' : ((l.length : Int) != (l'.length : Int)) = true := by rw [bne_iff_ne]; omega
    go_enter Tryd.func14, Tryd.ntmps14
    go_wp2_with fail
    go_returns
    have : Ty.beqs l l' = false := by
      cases h : Ty.beqs l l'
      · rfl
      · exact absurd (Ty.beqs_len l l' h) hll
    exact ⟨by simp [Ty.beq, this], ((Below.refl _ _).alloc (Nat.le_refl _) _).alloc (by simp) _⟩
  have Hll := Lib.hid hll
  have hss' : ((l.length : Int) != (l'.length : Int)) = false := by rw [hll]; simp
  clear hll
  go_enter Tryd.func14, Tryd.ntmps14
  go_wp2_with fail
  go_loopg [23] l.length (fun k v wr => ∃ j : Nat, j + k = l.length ∧ v = .int .i64 j ∧ Ty.beqs (l.take j) (l'.take j) = true ∧ Below (w.heap.size + 2) ((w.alloc (.cells #[.string s, .slice A l.length c] 24)).alloc (.cells #[.string s, .slice A' l'.length c'] 24)) wr)
  case atStart => exact ⟨0, by omega, rfl, by simp [Ty.beqs], Below.refl _ _⟩
  case round =>
    obtain ⟨j, hj, rfl, hb, hwr⟩ := hrel
    have hw0 : Below w.heap.size w wr := (((Below.refl _ w).alloc (Nat.le_refl _) _).alloc (by simp) _).trans (hwr.mono (by omega))
    have Hw0 := Lib.hid hw0
    have c0 : wr.cell? ⟨w.heap.size, 0, none⟩ = some (.string s) := (hwr.cell (p := ⟨w.heap.size, 0, none⟩) (by simp)).trans (by simp)
    have c1 : wr.cell? ⟨w.heap.size, 1, none⟩ = some (.slice A l.length c) := (hwr.cell (p := ⟨w.heap.size, 1, none⟩) (by simp)).trans (by simp)
    have d0 : wr.cell? ⟨w.heap.size + 1, 0, none⟩ = some (.string s) := (hwr.cell (p := ⟨w.heap.size + 1, 0, none⟩) (by simp)).trans (by simp)
    have d1 : wr.cell? ⟨w.heap.size + 1, 1, none⟩ = some (.slice A' l'.length c') := (hwr.cell (p := ⟨w.heap.size + 1, 1, none⟩) (by simp)).trans (by simp)
    have hsz : w.heap.size + 2 ≤ wr.heap.size := by have := hwr.size; simp at this; omega
    have Hwr := Lib.hid hwr
    have Hb := Lib.hid hb
    clear hwr hb hw0
    by_cases hjl : j < l.length
    · have hjl' : j < l'.length := by have := Hll.out; omega
      obtain ⟨b, o, rfl, hSb, hIn⟩ := HA.out (by omega)
      obtain ⟨b', o', rfl, hSb', hIn'⟩ := HA'.out (by omega)
      obtain ⟨u0, u1, e0, e1, e2⟩ := Ty.Ins_at (k := j) hIn (List.getElem?_eq_getElem hjl)
      obtain ⟨u0', u1', e0', e1', e2'⟩ := Ty.Ins_at (k := j) hIn' (List.getElem?_eq_getElem hjl')
      have hbs := HS.out _ hSb
      have hbs' := HS.out _ hSb'
      have f0 := (cell_keep (Hw0.out.block b hbs) _).trans e0
      have f1 := (cell_keep (Hw0.out.block b hbs) _).trans e1
      have f0' := (cell_keep (Hw0.out.block b' hbs') _).trans e0'
      have f1' := (cell_keep (Hw0.out.block b' hbs') _).trans e1'
      have HE := Lib.hid (Ty.In_keep (fun k hk => Hw0.out.block k (HS.out k hk)) (fun _ h => h) _ _ _ e2)
      have HE' := Lib.hid (Ty.In_keep (fun k hk => Hw0.out.block k (HS.out k hk)) (fun _ h => h) _ _ _ e2')
      clear e0 e1 e0' e1' e2 e2'
      have q0 : (0 : Int) ≤ (j : Int) := by omega
      have q1 : (j : Int) < (l.length : Int) := by omega
      have q2 : (j : Int) < (l'.length : Int) := by omega
      have HI := Lib.hid hIn
      have HI' := Lib.hid hIn'
      clear hIn hIn'
      by_cases he : l[j].beq l'[j] = true
      all_goals try simp only [Bool.not_eq_true] at he
      all_goals
        go_wp2_with fail
        go_region_held3 (fun w' => w'.cell? ⟨w.heap.size, 1, none⟩ = some (.slice (some ⟨b, o, none⟩) l.length c) ∧ w'.cell? ⟨w.heap.size + 1, 1, none⟩ = some (.slice (some ⟨b', o', none⟩) l'.length c') ∧
          w'.cell? ⟨b, o + j * 2, none⟩ = some u0 ∧ w'.cell? ⟨b, o + j * 2 + 1, none⟩ = some u1 ∧ w'.cell? ⟨b', o' + j * 2, none⟩ = some u0' ∧ w'.cell? ⟨b', o' + j * 2 + 1, none⟩ = some u1')
          ((first | (go_keep; done) | ((repeat' apply And.intro) <;> (refine (kc _ _ (by simp; omega)).trans ?_; assumption))))
          ((go_at_call 14; refine (IH.out l[j] l'[j] u0 u1 u0' u1' _ S ?q1 ?q2 ?q3 ?q4).mono ?_; (case q1 => (have := Ty.size_at l j hjl; have := HN.out; simp [Ty.size] at this; omega)); (case q2 => exact HE.out.drew); (case q3 => exact HE'.out.drew); (case q4 => (intro b hb; have := HS.out b hb; simp; omega)); rintro e w1 ⟨rfl, hw1⟩; obtain ⟨kc, kf⟩ := bcell hw1))
        go_wp2_with fail
      · go_roundg (l.length - (j + 1))
        case measure => omega
        case rel => exact ⟨j + 1, by omega, by go_num, Ty.beqs_snoc l l' j hjl hjl' Hb.out he, Hwr.out.drew.trans (hw1.mono (by simp; omega))⟩
      · go_returns
        exact ⟨by simp [Ty.beq, Ty.beqs_at l l' j hjl hjl' he], Hw0.out.drew.trans (hw1.mono (by simp; omega))⟩
    · go_wp2_with fail
      go_returns
      have h1 : j = l.length := by omega
      have h2 := Hb.out
      have h3 := Hll.out
      rw [h1, List.take_length] at h2
      rw [h3, List.take_length] at h2
      exact ⟨by simp [Ty.beq, h2], Hw0.out⟩


def TmL.eq (a b : TmL) : Bool := decide (a.kind = b.kind) && decide (a.nm = b.nm) && decide (a.ix = b.ix) && a.ty.beq b.ty
theorem TmL.of_eq {a b : TmL} (h : a.eq b = true) : a = b := by
  cases a; cases b
  simp only [TmL.eq, Bool.and_eq_true, decide_eq_true_eq] at h
  obtain ⟨⟨⟨rfl, rfl⟩, rfl⟩, h⟩ := h
  rw [Ty.eq_of_beq _ _ h]
theorem TmL.eq_self (a : TmL) : a.eq a = true := by simp [TmL.eq, Ty.beq_self]
abbrev tmBeq (t u : Tm) : Bool := Tree.beq TmL.eq t u
theorem tmBeq_self (t : Tm) : tmBeq t t = true := Tree.beq_self TmL.eq_self t

set_option maxRecDepth 100000 in
set_option maxHeartbeats 4000000 in
theorem eqTm_any : ∀ (N : Nat) (x y : Tm) (cs ds : List Value) (w : World) (S : Nat → Prop), x.nodes ≤ N → tmRep.R w S x cs → tmRep.R w S y ds → (∀ b, S b → b < w.heap.size) →
    Calls Tryd.prog 7 #[.agg cs.toArray, .agg ds.toArray] w fun e w' => e = .returned (.bool (tmBeq x y)) ∧ Below w.heap.size w w' := by
  intro N
  induction N with
  | zero => intro x; have := x.nodes_pos; intros; omega
  | succ N ih =>
  intro x y cs ds w S hN hx hy hS
  have IH := Lib.hid ih
  clear ih
  obtain ⟨⟨k1, s1, i1, ty1⟩, l1⟩ := x
  obtain ⟨⟨k2, s2, i2, ty2⟩, l2⟩ := y
  obtain ⟨u0, u1, v1, rfl, hn1, ht1, hl1⟩ := Tm.open_ hx
  obtain ⟨u2, u3, v2, rfl, hn2, ht2, hl2⟩ := Tm.open_ hy
  obtain ⟨sa, Aa, na, ca, rfl, rfl⟩ := ht1.shape
  obtain ⟨sb, Ab, nb, cb, rfl, rfl⟩ := ht2.shape
  have HL1 := Lib.hid hl1
  have HL2 := Lib.hid hl2
  obtain ⟨A1, m1, c1, rfl, rfl, hm1, _⟩ := hl1
  obtain ⟨A2, m2, c2, rfl, rfl, hm2, _⟩ := hl2
  unfold maxLen at hm1 hm2
  simp only at ht1 ht2
  clear hx hy hn1 hn2
  have HS := Lib.hid hS
  have HN := Lib.hid hN
  have HT1 := Lib.hid ht1
  have HT2 := Lib.hid ht2
  clear hS hN ht1 ht2
  by_cases hk : k1 = k2
  case neg =>
    have t1 : (k1 != k2) = true := bne_iff_ne.2 hk
    have f : tmBeq (.mk ⟨k1, s1, i1, ty1⟩ l1) (.mk ⟨k2, s2, i2, ty2⟩ l2) = false := by simp [tmBeq, Tree.beq, TmL.eq, hk]
    rw [f]
    clear hk f
    go_enter Tryd.func7, Tryd.ntmps7
    go_wp2_with fail
    go_returns
    exact ⟨rfl, by go_grown⟩
  subst hk
  by_cases hs : s1 = s2
  case neg =>
    have t1 : (s1.toList == s2.toList) = false := bytes_ne hs
    have f : tmBeq (.mk ⟨k1, s1, i1, ty1⟩ l1) (.mk ⟨k1, s2, i2, ty2⟩ l2) = false := by simp [tmBeq, Tree.beq, TmL.eq, hs]
    rw [f]
    clear hs f
    go_enter Tryd.func7, Tryd.ntmps7
    go_wp2_with fail
    go_returns
    exact ⟨rfl, by go_grown⟩
  subst hs
  by_cases hi : i1 = i2
  case neg =>
    have t1 : (i1 != i2) = true := bne_iff_ne.2 hi
    have f : tmBeq (.mk ⟨k1, s1, i1, ty1⟩ l1) (.mk ⟨k1, s1, i2, ty2⟩ l2) = false := by simp [tmBeq, Tree.beq, TmL.eq, hi]
    rw [f]
    clear hi f
    go_enter Tryd.func7, Tryd.ntmps7
    go_wp2_with fail
    go_returns
    exact ⟨rfl, by go_grown⟩
  subst hi
  have hlow : ∀ b, S b → b < w.heap.size + 1 + 1 := fun b hb => by have := HS.out b hb; omega
  have hq : ∀ (o p : Obj) b, S b → ((w.alloc o).alloc p).heap[b]? = w.heap[b]? := fun o p b hb => heap_old (by have := HS.out b hb; simp; omega) (heap_old (HS.out b hb) rfl)
  have HLOW := Lib.hid hlow
  have HQ := Lib.hid hq
  clear hlow hq
  have hcall := fun (o p : Obj) => Lib.hid (eqTy_any _ ty1 ty2 _ _ _ _ ((w.alloc o).alloc p) S (Nat.le_refl _) (HT1.out.keep (HQ.out o p)) (HT2.out.keep (HQ.out o p)) (fun b hb => by have := HLOW.out b hb; simpa using this))
  have HCALL := Lib.hid hcall
  clear hcall
  by_cases ht : ty1.beq ty2 = true
  case neg =>
    have f : tmBeq (.mk ⟨k1, s1, i1, ty1⟩ l1) (.mk ⟨k1, s1, i1, ty2⟩ l2) = false := by simp [tmBeq, Tree.beq, TmL.eq, ht]
    rw [f]
    have ht' : ty1.beq ty2 = false := by simpa using ht
    clear ht f
    go_enter Tryd.func7, Tryd.ntmps7
    go_wp2_with fail
    refine (HCALL.out _ _).out.mono ?_
    rw [ht']
    rintro e w1 ⟨rfl, hw1⟩
    have HW1 := Lib.hid ((show Below w.heap.size w _ by go_grown).trans (hw1.mono (by simp; omega)))
    clear hw1
    go_wp2_with fail
    go_returns
    exact ⟨rfl, HW1.out⟩
  by_cases hl : l1.length = l2.length
  case neg =>
    have t1 : ((l1.length : Int) != (l2.length : Int)) = true := bne_iff_ne.2 (by omega)
    have f : tmBeq (.mk ⟨k1, s1, i1, ty1⟩ l1) (.mk ⟨k1, s1, i1, ty2⟩ l2) = false := by
      have : Tree.beqs TmL.eq l1 l2 = false := by
        cases h : Tree.beqs TmL.eq l1 l2
        · rfl
        · exact absurd (Tree.beqs_len l1 l2 h) hl
      simp [tmBeq, Tree.beq, this]
    rw [f]
    clear hl f
    go_enter Tryd.func7, Tryd.ntmps7
    go_wp2_with fail
    refine (HCALL.out _ _).out.mono ?_
    rw [ht]
    rintro e w1 ⟨rfl, hw1⟩
    have h0 := (hw1.block w.heap.size (by simp <;> omega)).trans (heap_old (by simp) (heap_at rfl))
    have h1 := (hw1.block (w.heap.size + 1) (by simp)).trans (heap_at (by simp))
    have HW1 := Lib.hid ((show Below w.heap.size w _ by go_grown).trans (hw1.mono (by simp; omega)))
    clear hw1
    have h0_0 := cv0 h0
    have h0_1 := cv1 h0
    have h0_2 := cv2 h0
    have h0_3 := cv3 h0
    have h0_4 := cv4 h0
    have h0_5 := cv5 h0
    have h0_l := lt_heap h0
    have H0 := Lib.hid h0
    clear h0
    have h1_0 := cv0 h1
    have h1_1 := cv1 h1
    have h1_2 := cv2 h1
    have h1_3 := cv3 h1
    have h1_4 := cv4 h1
    have h1_5 := cv5 h1
    have h1_l := lt_heap h1
    have H1 := Lib.hid h1
    clear h1
    go_wp2_with fail
    go_returns
    exact ⟨rfl, HW1.out⟩
  have f : ∀ b, Tree.beqs TmL.eq l1 l2 = b → tmBeq (.mk ⟨k1, s1, i1, ty1⟩ l1) (.mk ⟨k1, s1, i1, ty2⟩ l2) = b := fun b h => by simp [tmBeq, Tree.beq, TmL.eq, ht, h]
  have HLL := Lib.hid hl
  have t1 : ((l1.length : Int) != (l2.length : Int)) = false := by rw [hl]; simp
  have F := Lib.hid f
  clear f
  clear hl
  go_enter Tryd.func7, Tryd.ntmps7
  go_wp2_with fail
  refine (HCALL.out _ _).out.mono ?_
  rw [ht]
  rintro e w1 ⟨rfl, hw1⟩
  have h0 := (hw1.block w.heap.size (by simp <;> omega)).trans (heap_old (by simp) (heap_at rfl))
  have h1 := (hw1.block (w.heap.size + 1) (by simp)).trans (heap_at (by simp))
  have HW1 := Lib.hid ((show Below w.heap.size w _ by go_grown).trans (hw1.mono (by simp; omega)))
  have z1 : w.heap.size + 1 + 1 ≤ w1.heap.size := by have := hw1.size; simpa using this
  clear hw1
  have h0_0 := cv0 h0
  have h0_1 := cv1 h0
  have h0_2 := cv2 h0
  have h0_3 := cv3 h0
  have h0_4 := cv4 h0
  have h0_5 := cv5 h0
  have h0_l := lt_heap h0
  have H0 := Lib.hid h0
  clear h0
  have h1_0 := cv0 h1
  have h1_1 := cv1 h1
  have h1_2 := cv2 h1
  have h1_3 := cv3 h1
  have h1_4 := cv4 h1
  have h1_5 := cv5 h1
  have h1_l := lt_heap h1
  have H1 := Lib.hid h1
  clear h1
  go_wp2_with fail
  clear h0_0 h0_1 h0_2 h0_3 h0_4 h0_5 h1_0 h1_1 h1_2 h1_3 h1_4 h1_5 h0_l h1_l ht
  go_loopg [45] l1.length (fun k v wr => ∃ j : Nat, j + k = l1.length ∧ v = .int .i64 j ∧ Tree.beqs TmL.eq (l1.take j) (l2.take j) = true ∧ Below w1.heap.size w1 wr)
  case atStart => exact ⟨0, by omega, rfl, by simp [Tree.beqs], Below.refl _ _⟩
  case round =>
    obtain ⟨j, hj, rfl, hb, hwr⟩ := hrel
    have h0 := (hwr.block _ (by omega)).trans H0.out
    have h1 := (hwr.block _ (by omega)).trans H1.out
    have hsz : w1.heap.size ≤ wr.heap.size := hwr.size
    have hw0 := HW1.out.trans (hwr.mono (by omega))
    have HWR := Lib.hid hwr
    have HB := Lib.hid hb
    have HW0 := Lib.hid hw0
    clear hwr hb hw0
    have h0_0 := cv0 h0
    have h0_1 := cv1 h0
    have h0_2 := cv2 h0
    have h0_3 := cv3 h0
    have h0_4 := cv4 h0
    have h0_5 := cv5 h0
    have h0_l := lt_heap h0
    have H0 := Lib.hid h0
    clear h0
    have h1_0 := cv0 h1
    have h1_1 := cv1 h1
    have h1_2 := cv2 h1
    have h1_3 := cv3 h1
    have h1_4 := cv4 h1
    have h1_5 := cv5 h1
    have h1_l := lt_heap h1
    have H1 := Lib.hid h1
    clear h1
    by_cases hjl : j < l1.length
    · have hjl' : j < l2.length := by have := HLL.out; omega
      obtain ⟨b, o, kc1, rfl, hSb, hr1, hc1⟩ := Rep.Sl.at_ HL1.out (List.getElem?_eq_getElem hjl)
      obtain ⟨b', o', kc2, rfl, hSb', hr2, hc2⟩ := Rep.Sl.at_ HL2.out (List.getElem?_eq_getElem hjl')
      obtain ⟨s1', A1', n1', c1', B1', m1', d1', rfl, _, _⟩ := Tm.shape hr1
      obtain ⟨s2', A2', n2', c2', B2', m2', d2', rfl, _, _⟩ := Tm.shape hr2
      have hbs := HS.out _ hSb
      have hbs' := HS.out _ hSb'
      have hk1 := HW0.out.block b hbs
      have hk2 := HW0.out.block b' hbs'
      have e0 : wr.cell? ⟨b, o + j * 6, none⟩ = _ := (cell_keep hk1 _).trans (hc1 0 _ rfl)
      have e1 : wr.cell? ⟨b, o + j * 6 + 1, none⟩ = _ := (cell_keep hk1 _).trans (hc1 1 _ rfl)
      have e2 : wr.cell? ⟨b, o + j * 6 + 2, none⟩ = _ := (cell_keep hk1 _).trans (hc1 2 _ rfl)
      have e3 : wr.cell? ⟨b, o + j * 6 + 3, none⟩ = _ := (cell_keep hk1 _).trans (hc1 3 _ rfl)
      have e4 : wr.cell? ⟨b, o + j * 6 + 4, none⟩ = _ := (cell_keep hk1 _).trans (hc1 4 _ rfl)
      have e5 : wr.cell? ⟨b, o + j * 6 + 5, none⟩ = _ := (cell_keep hk1 _).trans (hc1 5 _ rfl)
      have f0 : wr.cell? ⟨b', o' + j * 6, none⟩ = _ := (cell_keep hk2 _).trans (hc2 0 _ rfl)
      have f1 : wr.cell? ⟨b', o' + j * 6 + 1, none⟩ = _ := (cell_keep hk2 _).trans (hc2 1 _ rfl)
      have f2 : wr.cell? ⟨b', o' + j * 6 + 2, none⟩ = _ := (cell_keep hk2 _).trans (hc2 2 _ rfl)
      have f3 : wr.cell? ⟨b', o' + j * 6 + 3, none⟩ = _ := (cell_keep hk2 _).trans (hc2 3 _ rfl)
      have f4 : wr.cell? ⟨b', o' + j * 6 + 4, none⟩ = _ := (cell_keep hk2 _).trans (hc2 4 _ rfl)
      have f5 : wr.cell? ⟨b', o' + j * 6 + 5, none⟩ = _ := (cell_keep hk2 _).trans (hc2 5 _ rfl)
      have HR1 := Lib.hid (tmRep.keep hr1 (fun k hk => HW0.out.block k (HS.out k hk)) (fun _ h => h))
      have HR2 := Lib.hid (tmRep.keep hr2 (fun k hk => HW0.out.block k (HS.out k hk)) (fun _ h => h))
      have hih : Calls Tryd.prog 7 #[.agg #[.int .i64 l1[j].lab.kind, .string l1[j].lab.nm, .int .i64 l1[j].lab.ix, .string s1', .slice A1' n1' c1', .slice B1' m1' d1'], .agg #[.int .i64 l2[j].lab.kind, .string l2[j].lab.nm, .int .i64 l2[j].lab.ix, .string s2', .slice A2' n2' c2', .slice B2' m2' d2']] wr.drew _ := IH.out l1[j] l2[j] [.int .i64 l1[j].lab.kind, .string l1[j].lab.nm, .int .i64 l1[j].lab.ix, .string s1', .slice A1' n1' c1', .slice B1' m1' d1'] [.int .i64 l2[j].lab.kind, .string l2[j].lab.nm, .int .i64 l2[j].lab.ix, .string s2', .slice A2' n2' c2', .slice B2' m2' d2'] wr.drew S (by have := Tree.nodes_at l1 j hjl; have := HN.out; simp [Tree.nodes] at this; omega) (tmRep.keep HR1.out (fun _ _ => rfl) (fun _ h => h)) (tmRep.keep HR2.out (fun _ _ => rfl) (fun _ h => h)) (fun b hb => by have := HS.out b hb; simp; omega)
      clear hr1 hr2 hc1 hc2 hk1 hk2
      have HIH := Lib.hid hih
      clear hih
      have q0 : (0 : Int) ≤ (j : Int) := by omega
      have q1 : (j : Int) < (l1.length : Int) := by omega
      have q2 : (j : Int) < (l2.length : Int) := by omega
      have hbw : b < wr.heap.size ∧ b' < wr.heap.size := ⟨by omega, by omega⟩
      by_cases he : tmBeq l1[j] l2[j] = true
      all_goals try simp only [Bool.not_eq_true] at he
      all_goals
        rw [he] at HIH
        have HE := Lib.hid he
        clear he
        go_wp2_with fail
        go_region_held3 (fun w' => w'.cell? ⟨w.heap.size, 5, none⟩ = some (.slice (some ⟨b, o, none⟩) l1.length c1) ∧ w'.cell? ⟨w.heap.size + 1, 5, none⟩ = some (.slice (some ⟨b', o', none⟩) l2.length c2) ∧ w'.cell? ⟨b, o + j * 6, none⟩ = some (.int .i64 l1[j].lab.kind) ∧ w'.cell? ⟨b, o + j * 6 + 1, none⟩ = some (.string l1[j].lab.nm) ∧ w'.cell? ⟨b, o + j * 6 + 2, none⟩ = some (.int .i64 l1[j].lab.ix) ∧ w'.cell? ⟨b, o + j * 6 + 3, none⟩ = some (.string s1') ∧ w'.cell? ⟨b, o + j * 6 + 4, none⟩ = some (.slice A1' n1' c1') ∧ w'.cell? ⟨b, o + j * 6 + 5, none⟩ = some (.slice B1' m1' d1') ∧ w'.cell? ⟨b', o' + j * 6, none⟩ = some (.int .i64 l2[j].lab.kind) ∧ w'.cell? ⟨b', o' + j * 6 + 1, none⟩ = some (.string l2[j].lab.nm) ∧ w'.cell? ⟨b', o' + j * 6 + 2, none⟩ = some (.int .i64 l2[j].lab.ix) ∧ w'.cell? ⟨b', o' + j * 6 + 3, none⟩ = some (.string s2') ∧ w'.cell? ⟨b', o' + j * 6 + 4, none⟩ = some (.slice A2' n2' c2') ∧ w'.cell? ⟨b', o' + j * 6 + 5, none⟩ = some (.slice B2' m2' d2'))
          ((first | (go_keep; done) | (go_split_ands; (repeat' apply And.intro) <;> (refine (kc _ _ (by omega)).trans ?_; assumption))))
          (((with_reducible refine HIH.out.mono ?_); rintro e w2 ⟨rfl, hw2⟩; have kc : ∀ k q, k < wr.heap.size → w2.cell? ⟨k, q, none⟩ = wr.cell? ⟨k, q, none⟩ := (fun k q h => hw2.cell (p := ⟨k, q, none⟩) h); have HW2 := Lib.hid hw2; clear hw2))
        go_wp2_with fail
      · go_roundg (l1.length - (j + 1))
        case measure => omega
        case rel => exact ⟨j + 1, by omega, by go_num, Tree.beqs_snoc l1 l2 j hjl hjl' HB.out HE.out, HWR.out.drew.trans (HW2.out.mono (by simp; omega))⟩
      · go_returns
        rw [F.out false (Tree.beqs_at l1 l2 j hjl hjl' HE.out)]
        exact ⟨rfl, HW0.out.drew.trans (HW2.out.mono (by simp; omega))⟩
    · go_wp2_with fail
      go_returns
      have h1 : j = l1.length := by omega
      have h2 := HB.out
      have h3 := HLL.out
      rw [h1, List.take_length] at h2
      rw [h3, List.take_length] at h2
      rw [F.out true h2]
      exact ⟨rfl, HW0.out⟩
end

section
open Go Go.RowKit
set_option linter.unusedSimpArgs false
set_option linter.unusedVariables false

theorem tvId_text : tvId.text = [91, 101, 32, 35, 48, 93] := by
  simp only [tvId, Tv.text, Sy.bytes]
  rw [show Lib.decDigits 0 = [48] from by first | (unfold Lib.decDigits; rfl) | (simp [Lib.decDigits]; done) | decide +kernel]
  rfl
theorem tvId_ok : tvId.ok 0 := ⟨by show Sy.e.ty.fault = 0; unfold Ty.fault; rw [Sy.val_ok .e 1 0 (by decide) (by decide)], by show (0 : Nat) < 0 + 1; decide⟩
theorem tp_id : tpC ⟨#[91, 101, 32, 35, 48, 93]⟩ = (0, 0) ∧ tpT ⟨#[91, 101, 32, 35, 48, 93]⟩ = tvId.tm := by
  have h := tp_text (v := tvId) (s := .fn .e .e) tvId_ok (by decide) (by decide) rfl (by rw [tvId_text]; decide)
  rwa [tvId_text] at h
theorem idp_any (w : World) : Calls Tryd.prog 6 #[.string ⟨#[91, 101, 32, 35, 48, 93]⟩] w fun e w' => ∃ es : List Value, e = .returned (.tuple #[.agg es.toArray, .agg #[.int .i64 0, .int .i64 0]]) ∧ tmRep.R w' (Fresh w w') tvId.tm es ∧ Below w.heap.size w w' := by
  refine (tparse_any ⟨#[91, 101, 32, 35, 48, 93]⟩ w (by decide +kernel)).mono ?_
  unfold TParseAt
  rw [tp_id.1, tp_id.2]
  rintro e w' ⟨es, rfl, h1, h2⟩
  exact ⟨es, rfl, h1, h2⟩

set_option maxRecDepth 100000 in
set_option maxHeartbeats 16000000 in
theorem treadLaw_any (x : ByteArray) (w : World) (hx : x.size ≤ maxLen)
    (g0 : w.cell? ⟨0, 0, none⟩ = some (.int .i64 0)) (g1 : w.cell? ⟨0, 1, none⟩ = some (.int .i64 0)) :
    Calls Tryd.prog 3 #[.string x] w fun e w' => e = .returned (.bool true) ∧ Below w.heap.size w w' := by
  have hg := World.block_lt_of_cell? w _ g0
  have G0 := Lib.hid g0
  have G1 := Lib.hid g1
  clear g0 g1
  go_enter Tryd.func3, Tryd.ntmps3
  go_wp2_with fail
  (with_reducible refine (idp_any _).mono ?_)
  rintro e w3 ⟨es, rfl, h3, hB3⟩
  obtain ⟨s3, A3, n3, c3, B3, m3, d3, rfl, _, _⟩ := Tm.shape h3
  have z3 := hB3.size
  have c0' := (hB3.cell (p := ⟨0, 0, none⟩) hg).trans G0.out
  have c1' := (hB3.cell (p := ⟨0, 1, none⟩) hg).trans G1.out
  have l3 : 0 < w3.heap.size := by omega
  have l3b : 0 < w3.heap.size + 1 := by omega
  have l3c : 0 < w3.heap.size + 1 + 1 := by omega
  have HU3 := Lib.hid (tmRep.keep (S' := Lo w3) h3 (fun _ _ => rfl) (fun k hk => hk.2))
  have hBA := ((hB3.alloc (by omega) (.cells #[.int .i64 tvId.tm.lab.kind, .string tvId.tm.lab.nm, .int .i64 tvId.tm.lab.ix, .string s3, .slice A3 n3 c3, .slice B3 m3 d3] 27)).alloc (by simp; omega) (.cells #[.int .i64 0, .int .i64 0] 29))
  clear h3
  have HB3 := Lib.hid hB3
  have HBA := Lib.hid hBA
  clear hB3 hBA
  go_wp2_with fail
  go_region_held3 (fun w' => w'.cell? ⟨w3.heap.size + 1, 0, none⟩ = some (.int .i64 0) ∧ w'.cell? ⟨w3.heap.size + 1, 1, none⟩ = some (.int .i64 0) ∧ w'.cell? ⟨0, 0, none⟩ = some (.int .i64 0) ∧ w'.cell? ⟨0, 1, none⟩ = some (.int .i64 0) ∧ w'.cell? ⟨w3.heap.size, 0, none⟩ = some (.int .i64 tvId.tm.lab.kind) ∧ w'.cell? ⟨w3.heap.size, 1, none⟩ = some (.string tvId.tm.lab.nm) ∧ w'.cell? ⟨w3.heap.size, 2, none⟩ = some (.int .i64 tvId.tm.lab.ix) ∧ w'.cell? ⟨w3.heap.size, 3, none⟩ = some (.string s3) ∧ w'.cell? ⟨w3.heap.size, 4, none⟩ = some (.slice A3 n3 c3) ∧ w'.cell? ⟨w3.heap.size, 5, none⟩ = some (.slice B3 m3 d3))
    ((first | (go_keep; done) | (go_split_ands; (repeat' apply And.intro) <;> (refine (kc5 _ _ (by omega)).trans ?_; assumption)) | (go_split_ands; (repeat' apply And.intro) <;> (refine (kc4 _ _ (by omega)).trans ?_; assumption))))
    (first
      | ((with_reducible refine (identity_any _).mono ?_); rintro e w4 ⟨es, rfl, h4, hw4⟩; obtain ⟨s4, A4, n4, c4, B4, m4, d4, rfl, _, _⟩ := Tm.shape h4; have kc4 : ∀ k q, k < w3.heap.size + 2 → w4.cell? ⟨k, q, none⟩ = _ := (fun k q h => hw4.cell (p := ⟨k, q, none⟩) (by simp; omega)); have z4 : w3.heap.size + 2 ≤ w4.heap.size := (by have := hw4.size; simpa using this); have HU4 := Lib.hid h4; have HW4 := Lib.hid hw4; clear h4 hw4)
      | (have hq := eqTm_any _ tvId.tm tvId.tm [.int .i64 tvId.tm.lab.kind, .string tvId.tm.lab.nm, .int .i64 tvId.tm.lab.ix, .string s3, .slice A3 n3 c3, .slice B3 m3 d3] [.int .i64 tvId.tm.lab.kind, .string tvId.tm.lab.nm, .int .i64 tvId.tm.lab.ix, .string s4, .slice A4 n4 c4, .slice B4 m4 d4] w4 (Lo w4) (Nat.le_refl _) (tmRep.keep HU3.out (fun k hk => by have h' : k < w3.heap.size := hk; exact (HW4.out.block k (by simp; omega)).trans (heap_drew (heap_old (by simp; omega) (heap_old h' rfl)))) (fun k hk => by have h' : k < w3.heap.size := hk; exact (show k < w4.heap.size by omega))) (tmRep.keep HU4.out (fun _ _ => rfl) (fun k hk => hk.2)) (fun k hk => hk); rw [show tmBeq tvId.tm tvId.tm = true from tmBeq_self _] at hq; (with_reducible refine hq.mono ?_); clear hq; rintro e w5 ⟨rfl, hw5⟩; have kc5 : ∀ k q, k < w4.heap.size → w5.cell? ⟨k, q, none⟩ = _ := (fun k q h => hw5.cell (p := ⟨k, q, none⟩) h); have z5 := hw5.size; have HW5 := Lib.hid hw5; clear hw5)
      | fail)
  go_upto_region 4 with (fail)
  refine gen_last (fun wb => Below w.heap.size w wb) ?_ ?_
  · exact ((HBA.out.drew).trans (HW4.out.mono (by simp; omega))).trans (HW5.out.mono (by omega))
  rintro wb hBb
  have zb := hBb.size
  clear kc4 kc5 z4 z5 c0' c1' l3 l3b l3c
  have hpa := tparse_any x wb hx
  unfold TParseAt at hpa
  have hra := fun (o p : Obj) (W : World) => termRead_any x ((W.alloc o).alloc p) hx
  unfold TReadAt at hra
  obtain ⟨⟨fc, fi⟩, hf⟩ : ∃ p, tpC x = p := ⟨_, rfl⟩
  obtain ⟨t, ht⟩ : ∃ t, tpT x = t := ⟨_, rfl⟩
  rw [hf, ht] at hpa
  rw [hf, ht] at hra
  simp only at hpa hra
  clear hf ht
  have HBB := Lib.hid hBb
  have HPA := Lib.hid hpa
  have HRA := Lib.hid hra
  clear hBb hpa hra
  go_wp2_with fail
  (with_reducible refine HPA.out.mono ?_)
  rintro e wc ⟨es1, rfl, h1, hwc⟩
  obtain ⟨s1, A1, n1, c1, B1, m1, d1, rfl, _, _⟩ := Tm.shape h1
  have zc := hwc.size
  have hBc := HBB.out.trans (hwc.mono (by omega))
  have HU1 := Lib.hid (tmRep.keep (S' := Lo wc) h1 (fun _ _ => rfl) (fun k hk => hk.2))
  clear h1 hwc
  have HBC := Lib.hid hBc
  clear hBc
  go_wp2_with fail
  (with_reducible refine (HRA.out _ _ _).mono ?_)
  rintro e wd ⟨es2, rfl, h2, hwd⟩
  obtain ⟨s2, A2, n2, c2, B2, m2, d2, rfl, _, _⟩ := Tm.shape h2
  have zd : wc.heap.size + 2 ≤ wd.heap.size := by have := hwd.size; simpa using this
  have q1 := (hwd.block wc.heap.size (by simp; omega)).trans (heap_old (by simp) (heap_at rfl))
  have q2 := (hwd.block (wc.heap.size + 1) (by simp)).trans (heap_at (by simp))
  have hBd := ((HBC.out.alloc (by omega) (.cells #[.int .i64 t.lab.kind, .string t.lab.nm, .int .i64 t.lab.ix, .string s1, .slice A1 n1 c1, .slice B1 m1 d1] 27)).alloc (by simp; omega) (.cells #[.int .i64 (fc : Nat), .int .i64 fi] 29)).trans (hwd.mono (by simp; omega))
  have HV1 := Lib.hid (tmRep.keep (w' := wd) (S' := Lo wd) HU1.out (fun k hk => (hwd.block k (by have h' : k < wc.heap.size := hk; simp; omega)).trans (heap_old (by have h' : k < wc.heap.size := hk; simp; omega) (heap_old hk rfl))) (fun k hk => by have h' : k < wc.heap.size := hk; exact (show k < wd.heap.size by omega)))
  have HV2 := Lib.hid (tmRep.keep (S' := Lo wd) h2 (fun _ _ => rfl) (fun k hk => hk.2))
  have heq := fun (o p : Obj) => Lib.hid (eqTm_any t.nodes t t [.int .i64 t.lab.kind, .string t.lab.nm, .int .i64 t.lab.ix, .string s1, .slice A1 n1 c1, .slice B1 m1 d1] [.int .i64 t.lab.kind, .string t.lab.nm, .int .i64 t.lab.ix, .string s2, .slice A2 n2 c2, .slice B2 m2 d2] ((wd.alloc o).alloc p) (Lo wd) (Nat.le_refl _)
    (tmRep.keep HV1.out (fun k hk => heap_old (by have h' : k < wd.heap.size := hk; simp; omega) (heap_old hk rfl)) (fun k hk => hk))
    (tmRep.keep HV2.out (fun k hk => heap_old (by have h' : k < wd.heap.size := hk; simp; omega) (heap_old hk rfl)) (fun k hk => hk)) (fun k hk => by have : k < wd.heap.size := hk; simp; omega))
  rw [tmBeq_self] at heq
  clear hwd h2
  have lq : wc.heap.size + 1 < wd.heap.size := by omega
  have HBD := Lib.hid hBd
  have HEQ := Lib.hid heq
  clear hBd heq
  have q1_0 := cv0 q1
  have q1_1 := cv1 q1
  have q1_2 := cv2 q1
  have q1_3 := cv3 q1
  have q1_4 := cv4 q1
  have q1_5 := cv5 q1
  have q1_l := lt_heap q1
  have Q1 := Lib.hid q1
  clear q1
  have q2_0 := cv0 q2
  have q2_1 := cv1 q2
  have q2_l := lt_heap q2
  have Q2 := Lib.hid q2
  clear q2
  have lq2 : wc.heap.size < wd.heap.size + 1 := by omega
  have lq3 : wc.heap.size < wd.heap.size + 1 + 1 := by omega
  have lq4 : wc.heap.size + 1 < wd.heap.size + 1 := by omega
  have lq5 : wc.heap.size + 1 < wd.heap.size + 1 + 1 := by omega
  go_wp2_with fail
  (with_reducible refine (HEQ.out _ _).out.mono ?_)
  rintro e we ⟨rfl, hwe⟩
  have hBe : Below w.heap.size w we := Below.trans (show Below w.heap.size w _ from (HBD.out.alloc (by omega) _).alloc (by simp; omega) _) (hwe.mono (by simp; omega))
  clear hwe
  have HBE := Lib.hid hBe
  clear hBe
  go_wp2_with fail
  go_returns
  exact ⟨rfl, HBE.out⟩
end

end Go.Proofs.YtnoceodmnjhljaaDoor
