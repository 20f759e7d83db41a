/- Lemmas. -/
import Derived.Test.YtflcbbikfdahhaaDoorPkRt
import Derived.Test.YtflcbbikfdahhaaDoorPkRl
import Derived.Deep.OwnRows
import Derived.Deep.RegionLaw
import Derived.Deep.RegionHeld3
import Derived.Laws.MakeOwn
namespace Go.Proofs.YtflcbbikfdahhaaDoor
open Go Go.RowKit
set_option linter.unusedSimpArgs false
set_option linter.unusedVariables false
noncomputable section
set_option maxRecDepth 1000000
set_option maxHeartbeats 16000000
variable {s_2 s_3 s_4 s_7 s_34 s_8 s_132 s_144 s_10 s_145 s_11 s_13 : Value} {Q : Exit → Act → World → Prop} {z kd : Int} {Am Bm A B Dv : Option Addr} {nm1 cm nm2 dm n1 c1 n2 c2 mv ev j gm NN go i k x : Nat} {nm : ByteArray} {w : World} {b1 : Bool}

theorem frame_tb {P : Act → Prop} (h : ∀ x0 x1 x2 x3 x4 x5 x6 x7 x8 x9 x10 x11 x12 x13 x14 x15 x16 x17 x18 x19 x20 x21 x22 x23 x24 x25 x26 x27 x28 x29 x30 x31 x32 x33 x34 x35 x36 x37 x38 x39 x40 x41 x42 x43 x44 x45 x46 x47 x48 x49 x50 x51 x52 x53 x54 x55 x56 x57 x58 x59 x60 x61 x62 x63 x64 x65 x66 x67 x68 x69 x70 x71 x72 x73 x74 x75 x76 x77 x78 x79 x80 x81 x82 x83 x84 x85 x86 x87 x88 x89 x90 x91 x92 x93 x94 x95 x96 x97 x98 x99 x100 x101 x102 x103 x104 x105 x106 x107 x108 x109 x110 x111 x112 x113 x114 x115 x116 x117 x118 x119 x120 x121 x122 x123 x124 x125 x126 x127 x128 x129 x130 x131 x132 x133 x134 x135 x136 x137 x138 x139 x140 x141 x142 x143 x144 x145 x146 x147 x148 x149 x150 x151 x152 x153 x154 x155 x156 x157 x158 x159 x160 x161 x162 x163 x164 x165 x166 x167 x168 x169 x170 x171 x172 x173 x174 x175 x176 x177 x178 x179 x180 x181 x182 x183 x184 x185 x186 x187 x188 x189 x190 x191 x192 x193 x194 x195 x196 x197 x198 x199 x200 x201 x202 x203 x204 x205 x206 x207 x208 x209 x210 x211 x212 x213 x214 x215 x216 x217 x218 x219 x220 x221 x222 x223 x224 x225 x226 x227 x228 x229 x230 x231 x232 x233 x234 x235 x236 x237 x238 x239 x240 x241 x242 x243 x244 x245 x246 x247 x248 x249 x250 x251 x252 x253 x254 x255 x256 x257 x258 x259 x260 x261 x262 x263 x264 x265 x266 x267 x268 x269 x270 x271 x272 x273 x274 x275 x276 x277 x278 x279 x280 x281 x282 x283 x284 x285 x286 x287 x288 x289 x290 x291 x292 x293 x294 x295 x296 x297 x298 x299 x300 x301 x302 x303 x304 x305 x306 x307 x308 x309 x310 x311 x312 x313 x314 x315 x316 x317 x318 x319 x320 x321 x322 x323 x324 x325 x326 x327 x328 x329 x330 x331 x332 x333 x334 x335 x336 x337 x338 x339 x340 x341 x342 x343 x344 : Value, P ⟨(x0 :: x1 :: x2 :: x3 :: x4 :: x5 :: x6 :: x7 :: x8 :: x9 :: x10 :: x11 :: x12 :: x13 :: x14 :: x15 :: x16 :: x17 :: x18 :: x19 :: x20 :: x21 :: x22 :: x23 :: x24 :: x25 :: x26 :: x27 :: x28 :: x29 :: x30 :: x31 :: x32 :: x33 :: x34 :: x35 :: x36 :: x37 :: x38 :: x39 :: x40 :: x41 :: x42 :: x43 :: x44 :: x45 :: x46 :: x47 :: x48 :: x49 :: x50 :: x51 :: x52 :: x53 :: x54 :: x55 :: x56 :: x57 :: x58 :: x59 :: x60 :: x61 :: x62 :: x63 :: x64 :: x65 :: x66 :: x67 :: x68 :: x69 :: x70 :: x71 :: x72 :: x73 :: x74 :: x75 :: x76 :: x77 :: x78 :: x79 :: x80 :: x81 :: x82 :: x83 :: x84 :: x85 :: x86 :: x87 :: x88 :: x89 :: x90 :: x91 :: x92 :: x93 :: x94 :: x95 :: x96 :: x97 :: x98 :: x99 :: x100 :: x101 :: x102 :: x103 :: x104 :: x105 :: x106 :: x107 :: x108 :: x109 :: x110 :: x111 :: x112 :: x113 :: x114 :: x115 :: x116 :: x117 :: x118 :: x119 :: x120 :: x121 :: x122 :: x123 :: x124 :: x125 :: x126 :: x127 :: x128 :: x129 :: x130 :: x131 :: x132 :: x133 :: x134 :: x135 :: x136 :: x137 :: x138 :: x139 :: x140 :: x141 :: x142 :: x143 :: x144 :: x145 :: x146 :: x147 :: x148 :: x149 :: x150 :: x151 :: x152 :: x153 :: x154 :: x155 :: x156 :: x157 :: x158 :: x159 :: x160 :: x161 :: x162 :: x163 :: x164 :: x165 :: x166 :: x167 :: x168 :: x169 :: x170 :: x171 :: x172 :: x173 :: x174 :: x175 :: x176 :: x177 :: x178 :: x179 :: x180 :: x181 :: x182 :: x183 :: x184 :: x185 :: x186 :: x187 :: x188 :: x189 :: x190 :: x191 :: x192 :: x193 :: x194 :: x195 :: x196 :: x197 :: x198 :: x199 :: x200 :: x201 :: x202 :: x203 :: x204 :: x205 :: x206 :: x207 :: x208 :: x209 :: x210 :: x211 :: x212 :: x213 :: x214 :: x215 :: x216 :: x217 :: x218 :: x219 :: x220 :: x221 :: x222 :: x223 :: x224 :: x225 :: x226 :: x227 :: x228 :: x229 :: x230 :: x231 :: x232 :: x233 :: x234 :: x235 :: x236 :: x237 :: x238 :: x239 :: x240 :: x241 :: x242 :: x243 :: x244 :: x245 :: x246 :: x247 :: x248 :: x249 :: x250 :: x251 :: x252 :: x253 :: x254 :: x255 :: x256 :: x257 :: x258 :: x259 :: x260 :: x261 :: x262 :: x263 :: x264 :: x265 :: x266 :: x267 :: x268 :: x269 :: x270 :: x271 :: x272 :: x273 :: x274 :: x275 :: x276 :: x277 :: x278 :: x279 :: x280 :: x281 :: x282 :: x283 :: x284 :: x285 :: x286 :: x287 :: x288 :: x289 :: x290 :: x291 :: x292 :: x293 :: x294 :: x295 :: x296 :: x297 :: x298 :: x299 :: x300 :: x301 :: x302 :: x303 :: x304 :: x305 :: x306 :: x307 :: x308 :: x309 :: x310 :: x311 :: x312 :: x313 :: x314 :: x315 :: x316 :: x317 :: x318 :: x319 :: x320 :: x321 :: x322 :: x323 :: x324 :: x325 :: x326 :: x327 :: x328 :: x329 :: x330 :: x331 :: x332 :: x333 :: x334 :: x335 :: x336 :: x337 :: x338 :: x339 :: x340 :: x341 :: x342 :: x343 :: x344 :: []).toArray, []⟩) : ∀ a : Act, a.tmps.toList.length = 345 → a.defers = [] → P a := by
  rintro ⟨⟨l⟩, d⟩ hs hd
  simp only at hd
  subst hd
  revert l
  show ∀ l : List Value, l.length = 345 → P ⟨⟨l⟩, []⟩
  iterate 345 refine openS (fun _ => ?_)
  refine open0 ?_
  exact h ..
theorem infoBo : (Tryd.prog.info? 4).map (fun i => (i.zero, i.size, i.bytes)) = some (some (.bool false), 1, 1) := by kernel_rfl
noncomputable def cF51 : Code := Tryd.f51.body.getD .skip
def c_tb_r0 := sp 99 2 cF51
theorem tb_r0_wp {wo : World} (hN : ∀ a', Frm 345 [(2, s_2), (3, .pointer (some ⟨wo.heap.size, 0, none⟩)), (4, .pointer (some ⟨(wo.heap.size + 1), 0, none⟩))] a' → Q .normal a' ((wo.alloc (.cells #[.int .i64 z, .slice Am nm1 cm, .slice Bm nm2 dm] 25)).alloc (.cells #[.int .i64 kd, .string nm, .slice A n1 c1, .slice B n2 c2] 29))) : ∀ ac, Frm 345 [(0, .agg #[.int .i64 z, .slice Am nm1 cm, .slice Bm nm2 dm]), (1, .agg #[.int .i64 kd, .string nm, .slice A n1 c1, .slice B n2 c2]), (2, s_2)] ac → Code.wp Tryd.prog c_tb_r0 Q ac wo := by
  refine fO (frame_tb ?_)
  intros
  rename_i hq
  iterate 3 (obtain ⟨e,hq⟩ := hq; obtain rfl := sI e; clear e)
  clear hq
  conv => arg 2; whnf
  replace hN := Lib.hid hN
  go_wp2_with fail
  exact hN.out _ (by exact fR rfl rfl rfl)
def c_tb_r1 := sp 99 5 cF51
theorem tb_r1_wp  (hN : ∀ a', Frm 345 [(2, s_2), (3, s_3), (4, s_4), (7, .int .i64 (1 : Nat))] a' → Q .normal a' w) : ∀ ac, Frm 345 [(2, s_2), (3, s_3), (4, s_4)] ac → Code.wp Tryd.prog c_tb_r1 Q ac w := by
  refine fO (frame_tb ?_)
  intros
  rename_i hq
  iterate 3 (obtain ⟨e,hq⟩ := hq; obtain rfl := sI e; clear e)
  clear hq
  conv => arg 2; whnf
  replace hN := Lib.hid hN
  go_wp2_with fail
  exact hN.out _ (by exact fR rfl rfl rfl)
def c_tb_r2 := sp 99 19 cF51
theorem tb_r2_wp  (hN : ∀ a', Frm 345 [(2, .slice Dv mv ev), (3, s_3), (4, s_4), (7, s_7), (34, .int .i64 (mv : Nat)), (35, .int .i64 (0 : Nat))] a' → Q .normal a' w) : ∀ ac, Frm 345 [(2, .slice Dv mv ev), (3, s_3), (4, s_4), (7, s_7)] ac → Code.wp Tryd.prog c_tb_r2 Q ac w := by
  refine fO (frame_tb ?_)
  intros
  rename_i hq
  iterate 4 (obtain ⟨e,hq⟩ := hq; obtain rfl := sI e; clear e)
  clear hq
  conv => arg 2; whnf
  replace hN := Lib.hid hN
  go_wp2_with fail
  exact hN.out _ (by exact fR rfl rfl rfl)
def c_tb_r3 := sp 99 139 cF51
theorem tb_r3_wp (hN : ∀ a', Frm 345 [(2, s_2), (3, s_3), (4, s_4), (7, s_7), (34, .int .i64 (mv : Nat)), (35, .int .i64 (j : Nat)), (36, .bool (decide (j < mv)))] a' → Q .normal a' w) : ∀ ac, Frm 345 [(2, s_2), (3, s_3), (4, s_4), (7, s_7), (34, .int .i64 (mv : Nat)), (35, .int .i64 (j : Nat))] ac → Code.wp Tryd.prog c_tb_r3 Q ac w := by
  refine fO (frame_tb ?_)
  intros
  rename_i hq
  iterate 6 (obtain ⟨e,hq⟩ := hq; obtain rfl := sI e; clear e)
  clear hq
  conv => arg 2; whnf
  by_cases h : j < mv
  · have t1 : decide ((j : Int) < (mv : Int)) = true := by first | exact decide_eq_true (by omega) | exact beq_iff_eq.2 (by omega) | exact bne_iff_ne.2 (by omega)
    have t2 : (decide (j < mv)) = true := decide_eq_true h
    rw [t2] at hN
    clear h
    replace hN := Lib.hid hN
    go_wp2_with fail
    exact hN.out _ (by exact fR rfl rfl rfl)
  · have t1 : decide ((j : Int) < (mv : Int)) = false := by first | exact decide_eq_false (by omega) | exact beq_eq_false_iff_ne.2 (by omega) | exact bne_eq_false_iff_eq.2 (by omega)
    have t2 : (decide (j < mv)) = false := decide_eq_false h
    rw [t2] at hN
    clear h
    replace hN := Lib.hid hN
    go_wp2_with fail
    exact hN.out _ (by exact fR rfl rfl rfl)
def c_tb_r4 := sp 99 1227 cF51
theorem tb_r4_wp {p : Nat} {s_35 : Value} (hgm : w.heap[gm]? = some (.cells #[.int .i64 z, .slice Am nm1 cm, .slice Bm nm2 dm] 25 (0, 0)))  (hN : ∀ a', Frm 345 [(2, s_2), (3, .pointer (some ⟨gm, 0, none⟩)), (4, s_4), (7, .int .i64 (RowKit.wrap64 ((p : Nat) * z))), (34, s_34), (35, s_35)] a' → Q .normal a' w) : ∀ ac, Frm 345 [(2, s_2), (3, .pointer (some ⟨gm, 0, none⟩)), (4, s_4), (7, .int .i64 (p : Nat)), (34, s_34), (35, s_35)] ac → Code.wp Tryd.prog c_tb_r4 Q ac w := by
  refine fO (frame_tb ?_)
  intros
  rename_i hq
  iterate 6 (obtain ⟨e,hq⟩ := hq; obtain rfl := sI e; clear e)
  clear hq
  conv => arg 2; whnf
  have m0 := cellv hgm 0 rfl
  have m1 := cellv hgm 1 rfl
  have m2 := cellv hgm 2 rfl
  have ml := lt_heap hgm
  clear hgm
  replace hN := Lib.hid hN
  go_wp2_with fail
  exact hN.out _ (by exact fR rfl rfl rfl)
def c_tb_r5 := sp 99 971 cF51
theorem tb_r5_wp (hj : j ≤ 1000)  (hN : ∀ a', Frm 345 [(2, s_2), (3, s_3), (4, s_4), (7, s_7), (34, s_34), (35, .int .i64 (j + 1 : Nat))] a' → Q .normal a' w) : ∀ ac, Frm 345 [(2, s_2), (3, s_3), (4, s_4), (7, s_7), (34, s_34), (35, .int .i64 (j : Nat))] ac → Code.wp Tryd.prog c_tb_r5 Q ac w := by
  refine fO (frame_tb ?_)
  intros
  rename_i hq
  iterate 6 (obtain ⟨e,hq⟩ := hq; obtain rfl := sI e; clear e)
  clear hq
  conv => arg 2; whnf
  have h9 : (j : Int) ≤ 1000 := by omega
  replace hN := Lib.hid hN
  go_wp2_with fail
  exact hN.out _ (by exact fR rfl rfl rfl)
def c_tb_r6 := sp 99 23 cF51
theorem tb_r6_wp (hn9 : NN ≤ 100000)  (hN : ∀ a', Frm 345 [(2, s_2), (3, s_3), (4, s_4), (8, .slice (some ⟨w.heap.size, 0, none⟩) NN NN)] a' → Q .normal a' (w.alloc (.cells (madeCells #[.bool false] NN) 4))) : ∀ ac, Frm 345 [(2, s_2), (3, s_3), (4, s_4), (7, .int .i64 (NN : Nat))] ac → Code.wp Tryd.prog c_tb_r6 Q ac w := by
  refine fO (frame_tb ?_)
  intros
  rename_i hq
  iterate 4 (obtain ⟨e,hq⟩ := hq; obtain rfl := sI e; clear e)
  clear hq
  conv => arg 2; whnf
  have hmk := fun W : World => run_make_row' (P := Tryd.prog) 45 4 (.bool false) 1 Tryd.underlying45 infoBo rfl .i64 .i64 NN (by omega) (by omega) W
  replace hN := Lib.hid hN
  go_wp2_with fail
  exact hN.out _ (by exact fR rfl rfl rfl)
def c_tb_r7 := sp 99 79 cF51
theorem tb_r7_wp {gf : Nat} (ha : w.heap[gf]? = some (.cells #[.int .i64 kd, .string nm, .slice A n1 c1, .slice B n2 c2] 29 (0, 0)))  (hN : ∀ a', Frm 345 [(2, s_2), (3, s_3), (4, .pointer (some ⟨gf, 0, none⟩)), (8, s_8), (45, .int .i64 kd)] a' → Q .normal a' w) : ∀ ac, Frm 345 [(2, s_2), (3, s_3), (4, .pointer (some ⟨gf, 0, none⟩)), (8, s_8)] ac → Code.wp Tryd.prog c_tb_r7 Q ac w := by
  refine fO (frame_tb ?_)
  intros
  rename_i hq
  iterate 4 (obtain ⟨e,hq⟩ := hq; obtain rfl := sI e; clear e)
  clear hq
  conv => arg 2; whnf
  have a0 := cellv ha 0 rfl
  have a1 := cellv ha 1 rfl
  have a2 := cellv ha 2 rfl
  have a3 := cellv ha 3 rfl
  have al := lt_heap ha
  clear ha
  replace hN := Lib.hid hN
  go_wp2_with fail
  exact hN.out _ (by exact fR rfl rfl rfl)
def c_tb_r25 := sp 99 303 cF51
theorem tb_r25_wp (hN : ∀ a', Frm 345 [(2, s_2), (3, s_3), (4, s_4), (8, s_8), (45, .int .i64 kd), (129, .bool (decide (kd = 1)))] a' → Q .normal a' w) : ∀ ac, Frm 345 [(2, s_2), (3, s_3), (4, s_4), (8, s_8), (45, .int .i64 kd)] ac → Code.wp Tryd.prog c_tb_r25 Q ac w := by
  refine fO (frame_tb ?_)
  intros
  rename_i hq
  iterate 5 (obtain ⟨e,hq⟩ := hq; obtain rfl := sI e; clear e)
  clear hq
  conv => arg 2; whnf
  by_cases h : kd = 1
  · have t1 : (kd == 1) = true := by first | exact decide_eq_true (by omega) | exact beq_iff_eq.2 (by omega) | exact bne_iff_ne.2 (by omega)
    have t2 : (decide (kd = 1)) = true := decide_eq_true h
    rw [t2] at hN
    clear h
    replace hN := Lib.hid hN
    go_wp2_with fail
    exact hN.out _ (by exact fR rfl rfl rfl)
  · have t1 : (kd == 1) = false := by first | exact decide_eq_false (by omega) | exact beq_eq_false_iff_ne.2 (by omega) | exact bne_eq_false_iff_eq.2 (by omega)
    have t2 : (decide (kd = 1)) = false := decide_eq_false h
    rw [t2] at hN
    clear h
    replace hN := Lib.hid hN
    go_wp2_with fail
    exact hN.out _ (by exact fR rfl rfl rfl)
def c_tb_r31 := sp 99 2479 cF51
theorem tb_r31_wp (hN : ∀ a', Frm 345 [(2, s_2), (3, s_3), (4, s_4), (8, s_8), (45, .int .i64 kd), (140, .bool (decide (kd = 2)))] a' → Q .normal a' w) : ∀ ac, Frm 345 [(2, s_2), (3, s_3), (4, s_4), (8, s_8), (45, .int .i64 kd)] ac → Code.wp Tryd.prog c_tb_r31 Q ac w := by
  refine fO (frame_tb ?_)
  intros
  rename_i hq
  iterate 5 (obtain ⟨e,hq⟩ := hq; obtain rfl := sI e; clear e)
  clear hq
  conv => arg 2; whnf
  by_cases h : kd = 2
  · have t1 : (kd == 2) = true := by first | exact decide_eq_true (by omega) | exact beq_iff_eq.2 (by omega) | exact bne_iff_ne.2 (by omega)
    have t2 : (decide (kd = 2)) = true := decide_eq_true h
    rw [t2] at hN
    clear h
    replace hN := Lib.hid hN
    go_wp2_with fail
    exact hN.out _ (by exact fR rfl rfl rfl)
  · have t1 : (kd == 2) = false := by first | exact decide_eq_false (by omega) | exact beq_eq_false_iff_ne.2 (by omega) | exact bne_eq_false_iff_eq.2 (by omega)
    have t2 : (decide (kd = 2)) = false := decide_eq_false h
    rw [t2] at hN
    clear h
    replace hN := Lib.hid hN
    go_wp2_with fail
    exact hN.out _ (by exact fR rfl rfl rfl)
def c_tb_r32 := sp 99 7599 cF51
theorem tb_r32_wp (hN : ∀ a', Frm 345 [(2, s_2), (3, s_3), (4, s_4), (8, s_8), (45, .int .i64 kd), (140, .bool (decide (kd = 3)))] a' → Q .normal a' w) : ∀ ac, Frm 345 [(2, s_2), (3, s_3), (4, s_4), (8, s_8), (45, .int .i64 kd), (140, .bool b1)] ac → Code.wp Tryd.prog c_tb_r32 Q ac w := by
  refine fO (frame_tb ?_)
  intros
  rename_i hq
  iterate 6 (obtain ⟨e,hq⟩ := hq; obtain rfl := sI e; clear e)
  clear hq
  conv => arg 2; whnf
  by_cases h : kd = 3
  · have t1 : (kd == 3) = true := by first | exact decide_eq_true (by omega) | exact beq_iff_eq.2 (by omega) | exact bne_iff_ne.2 (by omega)
    have t2 : (decide (kd = 3)) = true := decide_eq_true h
    rw [t2] at hN
    clear h
    replace hN := Lib.hid hN
    go_wp2_with fail
    exact hN.out _ (by exact fR rfl rfl rfl)
  · have t1 : (kd == 3) = false := by first | exact decide_eq_false (by omega) | exact beq_eq_false_iff_ne.2 (by omega) | exact bne_eq_false_iff_eq.2 (by omega)
    have t2 : (decide (kd = 3)) = false := decide_eq_false h
    rw [t2] at hN
    clear h
    replace hN := Lib.hid hN
    go_wp2_with fail
    exact hN.out _ (by exact fR rfl rfl rfl)
def c_tb_r74 := sp 99 10159 cF51
theorem tb_r74_wp (hN : ∀ a', Frm 345 [(2, s_2), (3, s_3), (4, s_4), (8, s_8), (45, .int .i64 kd), (275, .bool (decide (kd = 8)))] a' → Q .normal a' w) : ∀ ac, Frm 345 [(2, s_2), (3, s_3), (4, s_4), (8, s_8), (45, .int .i64 kd)] ac → Code.wp Tryd.prog c_tb_r74 Q ac w := by
  refine fO (frame_tb ?_)
  intros
  rename_i hq
  iterate 5 (obtain ⟨e,hq⟩ := hq; obtain rfl := sI e; clear e)
  clear hq
  conv => arg 2; whnf
  by_cases h : kd = 8
  · have t1 : (kd == 8) = true := by first | exact decide_eq_true (by omega) | exact beq_iff_eq.2 (by omega) | exact bne_iff_ne.2 (by omega)
    have t2 : (decide (kd = 8)) = true := decide_eq_true h
    rw [t2] at hN
    clear h
    replace hN := Lib.hid hN
    go_wp2_with fail
    exact hN.out _ (by exact fR rfl rfl rfl)
  · have t1 : (kd == 8) = false := by first | exact decide_eq_false (by omega) | exact beq_eq_false_iff_ne.2 (by omega) | exact bne_eq_false_iff_eq.2 (by omega)
    have t2 : (decide (kd = 8)) = false := decide_eq_false h
    rw [t2] at hN
    clear h
    replace hN := Lib.hid hN
    go_wp2_with fail
    exact hN.out _ (by exact fR rfl rfl rfl)
def c_tb_r75 := sp 99 30639 cF51
theorem tb_r75_wp (hN : ∀ a', Frm 345 [(2, s_2), (3, s_3), (4, s_4), (8, s_8), (45, .int .i64 kd), (275, .bool (decide (kd = 9)))] a' → Q .normal a' w) : ∀ ac, Frm 345 [(2, s_2), (3, s_3), (4, s_4), (8, s_8), (45, .int .i64 kd), (275, .bool b1)] ac → Code.wp Tryd.prog c_tb_r75 Q ac w := by
  refine fO (frame_tb ?_)
  intros
  rename_i hq
  iterate 6 (obtain ⟨e,hq⟩ := hq; obtain rfl := sI e; clear e)
  clear hq
  conv => arg 2; whnf
  by_cases h : kd = 9
  · have t1 : (kd == 9) = true := by first | exact decide_eq_true (by omega) | exact beq_iff_eq.2 (by omega) | exact bne_iff_ne.2 (by omega)
    have t2 : (decide (kd = 9)) = true := decide_eq_true h
    rw [t2] at hN
    clear h
    replace hN := Lib.hid hN
    go_wp2_with fail
    exact hN.out _ (by exact fR rfl rfl rfl)
  · have t1 : (kd == 9) = false := by first | exact decide_eq_false (by omega) | exact beq_eq_false_iff_ne.2 (by omega) | exact bne_eq_false_iff_eq.2 (by omega)
    have t2 : (decide (kd = 9)) = false := decide_eq_false h
    rw [t2] at hN
    clear h
    replace hN := Lib.hid hN
    go_wp2_with fail
    exact hN.out _ (by exact fR rfl rfl rfl)
def c_tb_r26 := sp 99 1199 cF51
theorem tb_r26_wp  (hN : ∀ a', Frm 345 [(2, s_2), (3, s_3), (4, s_4), (8, .slice (some ⟨go, 0, none⟩) NN NN), (132, .int .i64 (NN : Nat)), (133, .int .i64 (0 : Nat))] a' → Q .normal a' w) : ∀ ac, Frm 345 [(2, s_2), (3, s_3), (4, s_4), (8, .slice (some ⟨go, 0, none⟩) NN NN)] ac → Code.wp Tryd.prog c_tb_r26 Q ac w := by
  refine fO (frame_tb ?_)
  intros
  rename_i hq
  iterate 4 (obtain ⟨e,hq⟩ := hq; obtain rfl := sI e; clear e)
  clear hq
  conv => arg 2; whnf
  replace hN := Lib.hid hN
  go_wp2_with fail
  exact hN.out _ (by exact fR rfl rfl rfl)
def c_tb_r27 := sp 99 8879 cF51
theorem tb_r27_wp (hN : ∀ a', Frm 345 [(2, s_2), (3, s_3), (4, s_4), (8, s_8), (132, .int .i64 (NN : Nat)), (133, .int .i64 (i : Nat)), (134, .bool (decide (i < NN)))] a' → Q .normal a' w) : ∀ ac, Frm 345 [(2, s_2), (3, s_3), (4, s_4), (8, s_8), (132, .int .i64 (NN : Nat)), (133, .int .i64 (i : Nat))] ac → Code.wp Tryd.prog c_tb_r27 Q ac w := by
  refine fO (frame_tb ?_)
  intros
  rename_i hq
  iterate 6 (obtain ⟨e,hq⟩ := hq; obtain rfl := sI e; clear e)
  clear hq
  conv => arg 2; whnf
  by_cases h : i < NN
  · have t1 : decide ((i : Int) < (NN : Int)) = true := by first | exact decide_eq_true (by omega) | exact beq_iff_eq.2 (by omega) | exact bne_iff_ne.2 (by omega)
    have t2 : (decide (i < NN)) = true := decide_eq_true h
    rw [t2] at hN
    clear h
    replace hN := Lib.hid hN
    go_wp2_with fail
    exact hN.out _ (by exact fR rfl rfl rfl)
  · have t1 : decide ((i : Int) < (NN : Int)) = false := by first | exact decide_eq_false (by omega) | exact beq_eq_false_iff_ne.2 (by omega) | exact bne_eq_false_iff_eq.2 (by omega)
    have t2 : (decide (i < NN)) = false := decide_eq_false h
    rw [t2] at hN
    clear h
    replace hN := Lib.hid hN
    go_wp2_with fail
    exact hN.out _ (by exact fR rfl rfl rfl)
def c_tb_r28 := sp 99 144047 cF51
theorem tb_r28_wp  (hN : ∀ a', Frm 345 [(2, s_2), (3, s_3), (4, s_4), (8, s_8), (132, s_132), (133, .int .i64 (i : Nat)), (9, .int .i64 (i : Nat))] a' → Q .normal a' w) : ∀ ac, Frm 345 [(2, s_2), (3, s_3), (4, s_4), (8, s_8), (132, s_132), (133, .int .i64 (i : Nat))] ac → Code.wp Tryd.prog c_tb_r28 Q ac w := by
  refine fO (frame_tb ?_)
  intros
  rename_i hq
  iterate 6 (obtain ⟨e,hq⟩ := hq; obtain rfl := sI e; clear e)
  clear hq
  conv => arg 2; whnf
  replace hN := Lib.hid hN
  go_wp2_with fail
  exact hN.out _ (by exact fR rfl rfl rfl)
def c_tb_r29 := sp 99 209583 cF51
theorem tb_r29_wp {ob : Bool} {s_133 : Value} (hi : i < NN) (ho : w.cell? ⟨go, i, none⟩ = some (.bool ob)) (hf : w.frozen? ⟨go, i, none⟩ = false) (hgl : go < w.heap.size)  (hN : ∀ a', Frm 345 [(2, s_2), (3, s_3), (4, s_4), (8, .slice (some ⟨go, 0, none⟩) NN NN), (132, s_132), (133, s_133)] a' → Q .normal a' (w.setCell ⟨go, i, none⟩ (.bool true))) : ∀ ac, Frm 345 [(2, s_2), (3, s_3), (4, s_4), (8, .slice (some ⟨go, 0, none⟩) NN NN), (132, s_132), (133, s_133), (9, .int .i64 (i : Nat))] ac → Code.wp Tryd.prog c_tb_r29 Q ac w := by
  refine fO (frame_tb ?_)
  intros
  rename_i hq
  iterate 7 (obtain ⟨e,hq⟩ := hq; obtain rfl := sI e; clear e)
  clear hq
  conv => arg 2; whnf
  have q0 : (0 : Int) ≤ (i : Int) := by omega
  have q1 : (i : Int) < (NN : Int) := by omega
  replace hN := Lib.hid hN
  go_wp2_with fail
  exact hN.out _ (by exact fR rfl rfl rfl)
def c_tb_r30 := sp 99 62127 cF51
theorem tb_r30_wp (hi : i ≤ 100000)  (hN : ∀ a', Frm 345 [(2, s_2), (3, s_3), (4, s_4), (8, s_8), (132, s_132), (133, .int .i64 (i + 1 : Nat))] a' → Q .normal a' w) : ∀ ac, Frm 345 [(2, s_2), (3, s_3), (4, s_4), (8, s_8), (132, s_132), (133, .int .i64 (i : Nat))] ac → Code.wp Tryd.prog c_tb_r30 Q ac w := by
  refine fO (frame_tb ?_)
  intros
  rename_i hq
  iterate 6 (obtain ⟨e,hq⟩ := hq; obtain rfl := sI e; clear e)
  clear hq
  conv => arg 2; whnf
  have h9 : (i : Int) ≤ 100000 := by omega
  replace hN := Lib.hid hN
  go_wp2_with fail
  exact hN.out _ (by exact fR rfl rfl rfl)
def c_tb_r33 := sp 99 5039 cF51
theorem tb_r33_wp  (hN : ∀ a', Frm 345 [(2, s_2), (3, s_3), (4, s_4), (8, .slice (some ⟨go, 0, none⟩) NN NN), (144, .int .i64 (NN : Nat)), (145, .int .i64 (0 : Nat))] a' → Q .normal a' w) : ∀ ac, Frm 345 [(2, s_2), (3, s_3), (4, s_4), (8, .slice (some ⟨go, 0, none⟩) NN NN)] ac → Code.wp Tryd.prog c_tb_r33 Q ac w := by
  refine fO (frame_tb ?_)
  intros
  rename_i hq
  iterate 4 (obtain ⟨e,hq⟩ := hq; obtain rfl := sI e; clear e)
  clear hq
  conv => arg 2; whnf
  replace hN := Lib.hid hN
  go_wp2_with fail
  exact hN.out _ (by exact fR rfl rfl rfl)
def c_tb_r34 := sp 99 35759 cF51
theorem tb_r34_wp (hN : ∀ a', Frm 345 [(2, s_2), (3, s_3), (4, s_4), (8, s_8), (144, .int .i64 (NN : Nat)), (145, .int .i64 (i : Nat)), (146, .bool (decide (i < NN)))] a' → Q .normal a' w) : ∀ ac, Frm 345 [(2, s_2), (3, s_3), (4, s_4), (8, s_8), (144, .int .i64 (NN : Nat)), (145, .int .i64 (i : Nat))] ac → Code.wp Tryd.prog c_tb_r34 Q ac w := by
  refine fO (frame_tb ?_)
  intros
  rename_i hq
  iterate 6 (obtain ⟨e,hq⟩ := hq; obtain rfl := sI e; clear e)
  clear hq
  conv => arg 2; whnf
  by_cases h : i < NN
  · have t1 : decide ((i : Int) < (NN : Int)) = true := by first | exact decide_eq_true (by omega) | exact beq_iff_eq.2 (by omega) | exact bne_iff_ne.2 (by omega)
    have t2 : (decide (i < NN)) = true := decide_eq_true h
    rw [t2] at hN
    clear h
    replace hN := Lib.hid hN
    go_wp2_with fail
    exact hN.out _ (by exact fR rfl rfl rfl)
  · have t1 : decide ((i : Int) < (NN : Int)) = false := by first | exact decide_eq_false (by omega) | exact beq_eq_false_iff_ne.2 (by omega) | exact bne_eq_false_iff_eq.2 (by omega)
    have t2 : (decide (i < NN)) = false := decide_eq_false h
    rw [t2] at hN
    clear h
    replace hN := Lib.hid hN
    go_wp2_with fail
    exact hN.out _ (by exact fR rfl rfl rfl)
def c_tb_r35 := sp 99 576431 cF51
theorem tb_r35_wp  (hN : ∀ a', Frm 345 [(2, s_2), (3, s_3), (4, s_4), (8, s_8), (144, s_144), (145, .int .i64 (i : Nat)), (10, .int .i64 (i : Nat))] a' → Q .normal a' w) : ∀ ac, Frm 345 [(2, s_2), (3, s_3), (4, s_4), (8, s_8), (144, s_144), (145, .int .i64 (i : Nat))] ac → Code.wp Tryd.prog c_tb_r35 Q ac w := by
  refine fO (frame_tb ?_)
  intros
  rename_i hq
  iterate 6 (obtain ⟨e,hq⟩ := hq; obtain rfl := sI e; clear e)
  clear hq
  conv => arg 2; whnf
  replace hN := Lib.hid hN
  go_wp2_with fail
  exact hN.out _ (by exact fR rfl rfl rfl)
def c_tb_r36 := sp 99 1362863 cF51
theorem tb_r36_wp (hm9 : mv ≤ 1000)  (hN : ∀ a', Frm 345 [(2, .slice Dv mv ev), (3, s_3), (4, s_4), (8, s_8), (144, s_144), (145, s_145), (10, s_10), (11, .slice (some ⟨w.heap.size, 0, none⟩) mv mv)] a' → Q .normal a' (w.alloc (.cells (madeCells #[.int .i64 0] mv) 3))) : ∀ ac, Frm 345 [(2, .slice Dv mv ev), (3, s_3), (4, s_4), (8, s_8), (144, s_144), (145, s_145), (10, s_10)] ac → Code.wp Tryd.prog c_tb_r36 Q ac w := by
  refine fO (frame_tb ?_)
  intros
  rename_i hq
  iterate 7 (obtain ⟨e,hq⟩ := hq; obtain rfl := sI e; clear e)
  clear hq
  conv => arg 2; whnf
  have hmk := fun W : World => run_make_row' (P := Tryd.prog) 44 3 (.int .i64 0) 8 Tryd.underlying44 infoInt rfl .i64 .i64 mv (by omega) (by omega) W
  replace hN := Lib.hid hN
  go_wp2_with fail
  exact hN.out _ (by exact fR rfl rfl rfl)
def c_tb_r37 := sp 99 5032879 cF51
theorem tb_r37_wp (hm9 : mv ≤ 1000)  (hN : ∀ a', Frm 345 [(2, .slice Dv mv ev), (3, s_3), (4, s_4), (8, s_8), (144, s_144), (145, s_145), (10, .int .i64 (i : Nat)), (11, s_11), (12, .int .i64 ((mv : Int) - 1)), (13, .int .i64 (i : Nat))] a' → Q .normal a' w) : ∀ ac, Frm 345 [(2, .slice Dv mv ev), (3, s_3), (4, s_4), (8, s_8), (144, s_144), (145, s_145), (10, .int .i64 (i : Nat)), (11, s_11)] ac → Code.wp Tryd.prog c_tb_r37 Q ac w := by
  refine fO (frame_tb ?_)
  intros
  rename_i hq
  iterate 8 (obtain ⟨e,hq⟩ := hq; obtain rfl := sI e; clear e)
  clear hq
  conv => arg 2; whnf
  have h9 : (mv : Int) ≤ 1000 := by omega
  replace hN := Lib.hid hN
  go_wp2_with fail
  exact hN.out _ (by exact fR rfl rfl rfl)
def c_tb_r38 := sp 99 70044591 cF51
theorem tb_r38_wp {q : Int} (hN : ∀ a', Frm 345 [(2, s_2), (3, s_3), (4, s_4), (8, s_8), (144, s_144), (145, s_145), (10, s_10), (11, s_11), (12, .int .i64 q), (13, s_13), (156, .bool (decide ((0 : Int) ≤ q)))] a' → Q .normal a' w) : ∀ ac, Frm 345 [(2, s_2), (3, s_3), (4, s_4), (8, s_8), (144, s_144), (145, s_145), (10, s_10), (11, s_11), (12, .int .i64 q), (13, s_13)] ac → Code.wp Tryd.prog c_tb_r38 Q ac w := by
  refine fO (frame_tb ?_)
  intros
  rename_i hq
  iterate 10 (obtain ⟨e,hq⟩ := hq; obtain rfl := sI e; clear e)
  clear hq
  conv => arg 2; whnf
  by_cases h : (0 : Int) ≤ q
  · have t1 : decide ((0 : Int) ≤ q) = true := by first | exact decide_eq_true (by omega) | exact beq_iff_eq.2 (by omega) | exact bne_iff_ne.2 (by omega)
    have t2 : (decide ((0 : Int) ≤ q)) = true := decide_eq_true h
    rw [t2] at hN
    clear h
    replace hN := Lib.hid hN
    go_wp2_with fail
    exact hN.out _ (by exact fR rfl rfl rfl)
  · have t1 : decide ((0 : Int) ≤ q) = false := by first | exact decide_eq_false (by omega) | exact beq_eq_false_iff_ne.2 (by omega) | exact bne_eq_false_iff_eq.2 (by omega)
    have t2 : (decide ((0 : Int) ≤ q)) = false := decide_eq_false h
    rw [t2] at hN
    clear h
    replace hN := Lib.hid hN
    go_wp2_with fail
    exact hN.out _ (by exact fR rfl rfl rfl)
def c_tb_r40 := sp 99 288148399 cF51
theorem tb_r40_wp {v5 : Int} {gv : Nat} (hgm : w.heap[gm]? = some (.cells #[.int .i64 z, .slice Am nm1 cm, .slice Bm nm2 dm] 25 (0, 0))) (hz : 1 ≤ z) (hk : k < mv) (ho : w.cell? ⟨gv, k, none⟩ = some (.int .i64 v5)) (hf : w.frozen? ⟨gv, k, none⟩ = false) (hgl : gv < w.heap.size)  (hN : ∀ a', Frm 345 [(2, s_2), (3, .pointer (some ⟨gm, 0, none⟩)), (4, s_4), (8, s_8), (144, s_144), (145, s_145), (10, s_10), (11, .slice (some ⟨gv, 0, none⟩) mv mv), (12, .int .i64 (k : Nat)), (13, .int .i64 (x : Nat))] a' → Q .normal a' (w.setCell ⟨gv, k, none⟩ (.int .i64 ((x : Int) % z)))) : ∀ ac, Frm 345 [(2, s_2), (3, .pointer (some ⟨gm, 0, none⟩)), (4, s_4), (8, s_8), (144, s_144), (145, s_145), (10, s_10), (11, .slice (some ⟨gv, 0, none⟩) mv mv), (12, .int .i64 (k : Nat)), (13, .int .i64 (x : Nat))] ac → Code.wp Tryd.prog c_tb_r40 Q ac w := by
  refine fO (frame_tb ?_)
  intros
  rename_i hq
  iterate 10 (obtain ⟨e,hq⟩ := hq; obtain rfl := sI e; clear e)
  clear hq
  conv => arg 2; whnf
  have m0 := cellv hgm 0 rfl
  have m1 := cellv hgm 1 rfl
  have m2 := cellv hgm 2 rfl
  have ml := lt_heap hgm
  clear hgm
  have q0 : (0 : Int) ≤ (k : Int) := by omega
  have q1 : (k : Int) < (mv : Int) := by omega
  have zn : (z == 0) = false := beq_eq_false_iff_ne.2 (by omega)
  replace hN := Lib.hid hN
  go_wp2_with fail
  exact hN.out _ (by exact fR rfl rfl rfl)
def c_tb_r41 := sp 99 422366127 cF51
theorem tb_r41_wp {s_12 : Value} (hgm : w.heap[gm]? = some (.cells #[.int .i64 z, .slice Am nm1 cm, .slice Bm nm2 dm] 25 (0, 0))) (hz : 1 ≤ z)  (hN : ∀ a', Frm 345 [(2, s_2), (3, .pointer (some ⟨gm, 0, none⟩)), (4, s_4), (8, s_8), (144, s_144), (145, s_145), (10, s_10), (11, s_11), (12, s_12), (13, .int .i64 (RowKit.wrap64 ((x : Int) / z)))] a' → Q .normal a' w) : ∀ ac, Frm 345 [(2, s_2), (3, .pointer (some ⟨gm, 0, none⟩)), (4, s_4), (8, s_8), (144, s_144), (145, s_145), (10, s_10), (11, s_11), (12, s_12), (13, .int .i64 (x : Nat))] ac → Code.wp Tryd.prog c_tb_r41 Q ac w := by
  refine fO (frame_tb ?_)
  intros
  rename_i hq
  iterate 10 (obtain ⟨e,hq⟩ := hq; obtain rfl := sI e; clear e)
  clear hq
  conv => arg 2; whnf
  have m0 := cellv hgm 0 rfl
  have m1 := cellv hgm 1 rfl
  have m2 := cellv hgm 2 rfl
  have ml := lt_heap hgm
  clear hgm
  have zn : (z == 0) = false := beq_eq_false_iff_ne.2 (by omega)
  replace hN := Lib.hid hN
  go_wp2_with fail
  exact hN.out _ (by exact fR rfl rfl rfl)
def c_tb_r39 := sp 99 120376239 cF51
theorem tb_r39_wp (hk : k ≤ 1000)  (hN : ∀ a', Frm 345 [(2, s_2), (3, s_3), (4, s_4), (8, s_8), (144, s_144), (145, s_145), (10, s_10), (11, s_11), (12, .int .i64 ((k : Int) - 1)), (13, s_13)] a' → Q .normal a' w) : ∀ ac, Frm 345 [(2, s_2), (3, s_3), (4, s_4), (8, s_8), (144, s_144), (145, s_145), (10, s_10), (11, s_11), (12, .int .i64 (k : Nat)), (13, s_13)] ac → Code.wp Tryd.prog c_tb_r39 Q ac w := by
  refine fO (frame_tb ?_)
  intros
  rename_i hq
  iterate 10 (obtain ⟨e,hq⟩ := hq; obtain rfl := sI e; clear e)
  clear hq
  conv => arg 2; whnf
  have h9 : (k : Int) ≤ 1000 := by omega
  replace hN := Lib.hid hN
  go_wp2_with fail
  exact hN.out _ (by exact fR rfl rfl rfl)
end
noncomputable section
set_option maxRecDepth 1000000
set_option maxHeartbeats 16000000
variable {Q : Exit → Act → World → Prop} {w : World} {s_2 s_3 s_4 s_8 s_10 s_11 s_144 s_145 v14 s_171 s_172 s_16 s_173 s_17 s_199 s_200 s_201 s_14 s_235 s_236 s_237 s_22 s_254 s_255 s_256 : Value} {gf n1 c1 n2 c2 j b o mv ev k gm nm1 cm nm2 dm p gc i NN go et a9 b9 gx nt nu cu : Nat} {A B Am Bm D9 Dt Du : Option Addr} {kd x9 q v5 z ra : Int} {nm s s2 : ByteArray} {K : Act → World → Prop} {ob : Bool}

def c_tb_r42 := sp 99 6081455 cF51
theorem tb_r42_wp  (hN : ∀ a', Frm 345 [(2, s_2), (3, s_3), (4, s_4), (8, s_8), (144, s_144), (145, s_145), (10, s_10), (11, s_11), (14, .slice none 0 0)] a' → Q .normal a' w) : ∀ ac, Frm 345 [(2, s_2), (3, s_3), (4, s_4), (8, s_8), (144, s_144), (145, s_145), (10, s_10), (11, s_11)] ac → Code.wp Tryd.prog c_tb_r42 Q ac w := by
  refine fO (frame_tb ?_)
  intros
  rename_i hq
  iterate 8 (obtain ⟨e,hq⟩ := hq; obtain rfl := sI e; clear e)
  clear hq
  conv => arg 2; whnf
  replace hN := Lib.hid hN
  go_wp2_with fail
  exact hN.out _ (by exact fR rfl rfl rfl)
def c_tb_r43 := sp 99 20761519 cF51
theorem tb_r43_wp (ha : w.heap[gf]? = some (.cells #[.int .i64 kd, .string nm, .slice A n1 c1, .slice B n2 c2] 29 (0, 0)))  (hN : ∀ a', Frm 345 [(2, s_2), (3, s_3), (4, .pointer (some ⟨gf, 0, none⟩)), (8, s_8), (144, s_144), (145, s_145), (10, s_10), (11, s_11), (14, v14), (171, .slice A n1 c1), (172, .int .i64 (n1 : Nat)), (173, .int .i64 (0 : Nat))] a' → Q .normal a' w) : ∀ ac, Frm 345 [(2, s_2), (3, s_3), (4, .pointer (some ⟨gf, 0, none⟩)), (8, s_8), (144, s_144), (145, s_145), (10, s_10), (11, s_11), (14, v14)] ac → Code.wp Tryd.prog c_tb_r43 Q ac w := by
  refine fO (frame_tb ?_)
  intros
  rename_i hq
  iterate 9 (obtain ⟨e,hq⟩ := hq; obtain rfl := sI e; clear e)
  clear hq
  conv => arg 2; whnf
  have a0 := cellv ha 0 rfl
  have a1 := cellv ha 1 rfl
  have a2 := cellv ha 2 rfl
  have a3 := cellv ha 3 rfl
  have al := lt_heap ha
  clear ha
  replace hN := Lib.hid hN
  go_wp2_with fail
  exact hN.out _ (by exact fR rfl rfl rfl)
def c_tb_r44 := sp 99 146590639 cF51
theorem tb_r44_wp (hN : ∀ a', Frm 345 [(2, s_2), (3, s_3), (4, s_4), (8, s_8), (144, s_144), (145, s_145), (10, s_10), (11, s_11), (14, v14), (171, s_171), (172, .int .i64 (n1 : Nat)), (173, .int .i64 (j : Nat)), (174, .bool (decide (j < n1)))] a' → Q .normal a' w) : ∀ ac, Frm 345 [(2, s_2), (3, s_3), (4, s_4), (8, s_8), (144, s_144), (145, s_145), (10, s_10), (11, s_11), (14, v14), (171, s_171), (172, .int .i64 (n1 : Nat)), (173, .int .i64 (j : Nat))] ac → Code.wp Tryd.prog c_tb_r44 Q ac w := by
  refine fO (frame_tb ?_)
  intros
  rename_i hq
  iterate 12 (obtain ⟨e,hq⟩ := hq; obtain rfl := sI e; clear e)
  clear hq
  conv => arg 2; whnf
  by_cases h : j < n1
  · have t1 : decide ((j : Int) < (n1 : Int)) = true := by first | exact decide_eq_true (by omega) | exact beq_iff_eq.2 (by omega) | exact bne_iff_ne.2 (by omega)
    have t2 : (decide (j < n1)) = true := decide_eq_true h
    rw [t2] at hN
    clear h
    replace hN := Lib.hid hN
    go_wp2_with fail
    exact hN.out _ (by exact fR rfl rfl rfl)
  · have t1 : decide ((j : Int) < (n1 : Int)) = false := by first | exact decide_eq_false (by omega) | exact beq_eq_false_iff_ne.2 (by omega) | exact bne_eq_false_iff_eq.2 (by omega)
    have t2 : (decide (j < n1)) = false := decide_eq_false h
    rw [t2] at hN
    clear h
    replace hN := Lib.hid hN
    go_wp2_with fail
    exact hN.out _ (by exact fR rfl rfl rfl)
def c_tb_r45 := sp 99 2361183151 cF51
theorem tb_r45_wp (hj : j < n1) (hc0 : w.cell? ⟨b, o + j, none⟩ = some (.string s)) (hbl : b < w.heap.size)  (hN : ∀ a', Frm 345 [(2, s_2), (3, s_3), (4, s_4), (8, s_8), (144, s_144), (145, s_145), (10, s_10), (11, s_11), (14, v14), (171, .slice (some ⟨b, o, none⟩) n1 c1), (172, s_172), (173, .int .i64 (j : Nat)), (16, .string s)] a' → Q .normal a' w) : ∀ ac, Frm 345 [(2, s_2), (3, s_3), (4, s_4), (8, s_8), (144, s_144), (145, s_145), (10, s_10), (11, s_11), (14, v14), (171, .slice (some ⟨b, o, none⟩) n1 c1), (172, s_172), (173, .int .i64 (j : Nat))] ac → Code.wp Tryd.prog c_tb_r45 Q ac w := by
  refine fO (frame_tb ?_)
  intros
  rename_i hq
  iterate 12 (obtain ⟨e,hq⟩ := hq; obtain rfl := sI e; clear e)
  clear hq
  conv => arg 2; whnf
  have q0 : (0 : Int) ≤ (j : Int) := by omega
  have q1 : (j : Int) < (n1 : Int) := by omega
  replace hN := Lib.hid hN
  go_wp2_with fail
  exact hN.out _ (by exact fR rfl rfl rfl)
def c_tb_r46 := sp 99 5582408623 cF51
theorem tb_r46_wp  (hN : ∀ a', Frm 345 [(2, s_2), (3, s_3), (4, s_4), (8, s_8), (144, s_144), (145, s_145), (10, s_10), (11, s_11), (14, v14), (171, s_171), (172, s_172), (173, s_173), (16, s_16), (17, .int .i64 (-1))] a' → Q .normal a' w) : ∀ ac, Frm 345 [(2, s_2), (3, s_3), (4, s_4), (8, s_8), (144, s_144), (145, s_145), (10, s_10), (11, s_11), (14, v14), (171, s_171), (172, s_172), (173, s_173), (16, s_16)] ac → Code.wp Tryd.prog c_tb_r46 Q ac w := by
  refine fO (frame_tb ?_)
  intros
  rename_i hq
  iterate 13 (obtain ⟨e,hq⟩ := hq; obtain rfl := sI e; clear e)
  clear hq
  conv => arg 2; whnf
  replace hN := Lib.hid hN
  go_wp2_with fail
  exact hN.out _ (by exact fR rfl rfl rfl)
def c_tb_r47 := sp 99 20614794159 cF51
theorem tb_r47_wp {Dv : Option Addr} (hm9 : mv ≤ 1000)  (hN : ∀ a', Frm 345 [(2, .slice Dv mv ev), (3, s_3), (4, s_4), (8, s_8), (144, s_144), (145, s_145), (10, s_10), (11, s_11), (14, v14), (171, s_171), (172, s_172), (173, s_173), (16, s_16), (17, s_17), (18, .int .i64 ((mv : Int) - 1))] a' → Q .normal a' w) : ∀ ac, Frm 345 [(2, .slice Dv mv ev), (3, s_3), (4, s_4), (8, s_8), (144, s_144), (145, s_145), (10, s_10), (11, s_11), (14, v14), (171, s_171), (172, s_172), (173, s_173), (16, s_16), (17, s_17)] ac → Code.wp Tryd.prog c_tb_r47 Q ac w := by
  refine fO (frame_tb ?_)
  intros
  rename_i hq
  iterate 14 (obtain ⟨e,hq⟩ := hq; obtain rfl := sI e; clear e)
  clear hq
  conv => arg 2; whnf
  have h9 : (mv : Int) ≤ 1000 := by omega
  replace hN := Lib.hid hN
  go_wp2_with fail
  exact hN.out _ (by exact fR rfl rfl rfl)
def c_tb_r48 := sp 99 286902766511 cF51
theorem tb_r48_wp (hN : ∀ a', Frm 345 [(2, s_2), (3, s_3), (4, s_4), (8, s_8), (144, s_144), (145, s_145), (10, s_10), (11, s_11), (14, v14), (171, s_171), (172, s_172), (173, s_173), (16, s_16), (17, .int .i64 x9), (18, .int .i64 q), (185, .bool (decide ((0 : Int) ≤ q ∧ x9 < 0)))] a' → Q .normal a' w) : ∀ ac, Frm 345 [(2, s_2), (3, s_3), (4, s_4), (8, s_8), (144, s_144), (145, s_145), (10, s_10), (11, s_11), (14, v14), (171, s_171), (172, s_172), (173, s_173), (16, s_16), (17, .int .i64 x9), (18, .int .i64 q)] ac → Code.wp Tryd.prog c_tb_r48 Q ac w := by
  refine fO (frame_tb ?_)
  intros
  rename_i hq
  iterate 15 (obtain ⟨e,hq⟩ := hq; obtain rfl := sI e; clear e)
  clear hq
  conv => arg 2; whnf
  by_cases h : (0 : Int) ≤ q
  · have t1 : decide ((0 : Int) ≤ q) = true := decide_eq_true h
    by_cases h2 : x9 < 0
    · have t2 : decide (x9 < 0) = true := decide_eq_true h2
      rw [show decide ((0 : Int) ≤ q ∧ x9 < 0) = true from decide_eq_true ⟨h, h2⟩] at hN
      clear h h2
      replace hN := Lib.hid hN
      go_wp2_with fail
      exact hN.out _ (by exact fR rfl rfl rfl)
    · have t2 : decide (x9 < 0) = false := decide_eq_false h2
      rw [show decide ((0 : Int) ≤ q ∧ x9 < 0) = false from decide_eq_false (fun hh => h2 hh.2)] at hN
      clear h h2
      replace hN := Lib.hid hN
      go_wp2_with fail
      exact hN.out _ (by exact fR rfl rfl rfl)
  · have t1 : decide ((0 : Int) ≤ q) = false := decide_eq_false h
    rw [show decide ((0 : Int) ≤ q ∧ x9 < 0) = false from decide_eq_false (fun hh => h hh.1)] at hN
    clear h
    replace hN := Lib.hid hN
    go_wp2_with fail
    exact hN.out _ (by exact fR rfl rfl rfl)
def c_tb_r50 := sp 99 1180255964079 cF51
theorem tb_r50_wp (hk : k < mv) (hc0 : w.cell? ⟨b, o + k, none⟩ = some (.string s2)) (hbl : b < w.heap.size) (hN : ∀ a', Frm 345 [(2, .slice (some ⟨b, o, none⟩) mv ev), (3, s_3), (4, s_4), (8, s_8), (144, s_144), (145, s_145), (10, s_10), (11, s_11), (14, v14), (171, s_171), (172, s_172), (173, s_173), (16, .string s), (17, s_17), (18, .int .i64 (k : Nat)), (193, .bool (decide (s2 = s)))] a' → Q .normal a' w) : ∀ ac, Frm 345 [(2, .slice (some ⟨b, o, none⟩) mv ev), (3, s_3), (4, s_4), (8, s_8), (144, s_144), (145, s_145), (10, s_10), (11, s_11), (14, v14), (171, s_171), (172, s_172), (173, s_173), (16, .string s), (17, s_17), (18, .int .i64 (k : Nat))] ac → Code.wp Tryd.prog c_tb_r50 Q ac w := by
  refine fO (frame_tb ?_)
  intros
  rename_i hq
  iterate 15 (obtain ⟨e,hq⟩ := hq; obtain rfl := sI e; clear e)
  clear hq
  conv => arg 2; whnf
  have q0 : (0 : Int) ≤ (k : Int) := by omega
  have q1 : (k : Int) < (mv : Int) := by omega
  by_cases h : s2 = s
  · have t1 : (s2.toList == s.toList) = true := by rw [h]; simp
    rw [show decide (s2 = s) = true from decide_eq_true h] at hN
    clear h
    replace hN := Lib.hid hN
    go_wp2_with fail
    exact hN.out _ (by exact fR rfl rfl rfl)
  · have t1 : (s2.toList == s.toList) = false := by
      refine beq_eq_false_iff_ne.2 (fun e => h (bytes_inj e))
    rw [show decide (s2 = s) = false from decide_eq_false h] at hN
    clear h
    replace hN := Lib.hid hN
    go_wp2_with fail
    exact hN.out _ (by exact fR rfl rfl rfl)
def c_tb_r51 := sp 99 2829523405743 cF51
theorem tb_r51_wp {gv : Nat} (hk : k < mv) (hc0 : w.cell? ⟨gv, k, none⟩ = some (.int .i64 v5)) (hgl : gv < w.heap.size)  (hN : ∀ a', Frm 345 [(2, s_2), (3, s_3), (4, s_4), (8, s_8), (144, s_144), (145, s_145), (10, s_10), (11, .slice (some ⟨gv, 0, none⟩) mv mv), (14, v14), (171, s_171), (172, s_172), (173, s_173), (16, s_16), (17, .int .i64 v5), (18, .int .i64 (k : Nat))] a' → Q .normal a' w) : ∀ ac, Frm 345 [(2, s_2), (3, s_3), (4, s_4), (8, s_8), (144, s_144), (145, s_145), (10, s_10), (11, .slice (some ⟨gv, 0, none⟩) mv mv), (14, v14), (171, s_171), (172, s_172), (173, s_173), (16, s_16), (17, .int .i64 x9), (18, .int .i64 (k : Nat))] ac → Code.wp Tryd.prog c_tb_r51 Q ac w := by
  refine fO (frame_tb ?_)
  intros
  rename_i hq
  iterate 15 (obtain ⟨e,hq⟩ := hq; obtain rfl := sI e; clear e)
  clear hq
  conv => arg 2; whnf
  have q0 : (0 : Int) ≤ (k : Int) := by omega
  have q1 : (k : Int) < (mv : Int) := by omega
  replace hN := Lib.hid hN
  go_wp2_with fail
  exact hN.out _ (by exact fR rfl rfl rfl)
def c_tb_r49 := sp 99 493061196719 cF51
theorem tb_r49_wp (hk : k ≤ 1000)  (hN : ∀ a', Frm 345 [(2, s_2), (3, s_3), (4, s_4), (8, s_8), (144, s_144), (145, s_145), (10, s_10), (11, s_11), (14, v14), (171, s_171), (172, s_172), (173, s_173), (16, s_16), (17, s_17), (18, .int .i64 ((k : Int) - 1))] a' → Q .normal a' w) : ∀ ac, Frm 345 [(2, s_2), (3, s_3), (4, s_4), (8, s_8), (144, s_144), (145, s_145), (10, s_10), (11, s_11), (14, v14), (171, s_171), (172, s_172), (173, s_173), (16, s_16), (17, s_17), (18, .int .i64 (k : Nat))] ac → Code.wp Tryd.prog c_tb_r49 Q ac w := by
  refine fO (frame_tb ?_)
  intros
  rename_i hq
  iterate 15 (obtain ⟨e,hq⟩ := hq; obtain rfl := sI e; clear e)
  clear hq
  conv => arg 2; whnf
  have h9 : (k : Int) ≤ 1000 := by omega
  replace hN := Lib.hid hN
  go_wp2_with fail
  exact hN.out _ (by exact fR rfl rfl rfl)
def c_tb_r52 := sp 99 42089630639 cF51
theorem tb_r52_wp (hgm : w.heap[gm]? = some (.cells #[.int .i64 z, .slice Am nm1 cm, .slice Bm nm2 dm] 25 (0, 0)))  (hN : ∀ a', Frm 345 [(2, s_2), (3, .pointer (some ⟨gm, 0, none⟩)), (4, s_4), (8, s_8), (144, s_144), (145, s_145), (10, s_10), (11, s_11), (14, v14), (171, s_171), (172, s_172), (173, s_173), (16, s_16), (17, s_17), (199, .slice Am nm1 cm), (200, .int .i64 (nm1 : Nat)), (201, .int .i64 (0 : Nat))] a' → Q .normal a' w) : ∀ ac, Frm 345 [(2, s_2), (3, .pointer (some ⟨gm, 0, none⟩)), (4, s_4), (8, s_8), (144, s_144), (145, s_145), (10, s_10), (11, s_11), (14, v14), (171, s_171), (172, s_172), (173, s_173), (16, s_16), (17, s_17)] ac → Code.wp Tryd.prog c_tb_r52 Q ac w := by
  refine fO (frame_tb ?_)
  intros
  rename_i hq
  iterate 14 (obtain ⟨e,hq⟩ := hq; obtain rfl := sI e; clear e)
  clear hq
  conv => arg 2; whnf
  have m0 := cellv hgm 0 rfl
  have m1 := cellv hgm 1 rfl
  have m2 := cellv hgm 2 rfl
  have ml := lt_heap hgm
  clear hgm
  replace hN := Lib.hid hN
  go_wp2_with fail
  exact hN.out _ (by exact fR rfl rfl rfl)
def c_tb_r53 := sp 99 299787668399 cF51
theorem tb_r53_wp (hN : ∀ a', Frm 345 [(2, s_2), (3, s_3), (4, s_4), (8, s_8), (144, s_144), (145, s_145), (10, s_10), (11, s_11), (14, v14), (171, s_171), (172, s_172), (173, s_173), (16, s_16), (17, s_17), (199, s_199), (200, .int .i64 (nm1 : Nat)), (201, .int .i64 (p : Nat)), (202, .bool (decide (p < nm1)))] a' → Q .normal a' w) : ∀ ac, Frm 345 [(2, s_2), (3, s_3), (4, s_4), (8, s_8), (144, s_144), (145, s_145), (10, s_10), (11, s_11), (14, v14), (171, s_171), (172, s_172), (173, s_173), (16, s_16), (17, s_17), (199, s_199), (200, .int .i64 (nm1 : Nat)), (201, .int .i64 (p : Nat))] ac → Code.wp Tryd.prog c_tb_r53 Q ac w := by
  refine fO (frame_tb ?_)
  intros
  rename_i hq
  iterate 17 (obtain ⟨e,hq⟩ := hq; obtain rfl := sI e; clear e)
  clear hq
  conv => arg 2; whnf
  by_cases h : p < nm1
  · have t1 : decide ((p : Int) < (nm1 : Int)) = true := by first | exact decide_eq_true (by omega) | exact beq_iff_eq.2 (by omega) | exact bne_iff_ne.2 (by omega)
    have t2 : (decide (p < nm1)) = true := decide_eq_true h
    rw [t2] at hN
    clear h
    replace hN := Lib.hid hN
    go_wp2_with fail
    exact hN.out _ (by exact fR rfl rfl rfl)
  · have t1 : decide ((p : Int) < (nm1 : Int)) = false := by first | exact decide_eq_false (by omega) | exact beq_eq_false_iff_ne.2 (by omega) | exact bne_eq_false_iff_eq.2 (by omega)
    have t2 : (decide (p < nm1)) = false := decide_eq_false h
    rw [t2] at hN
    clear h
    replace hN := Lib.hid hN
    go_wp2_with fail
    exact hN.out _ (by exact fR rfl rfl rfl)
def c_tb_r54 := sp 99 4835273132975 cF51
theorem tb_r54_wp (hp : p < nm1) (e0 : w.cell? ⟨b, o + p * 2, none⟩ = some (.string s2)) (e1 : w.cell? ⟨b, o + p * 2 + 1, none⟩ = some (.int .i64 v5)) (hbl : b < w.heap.size)  (hN : ∀ a', Frm 345 [(2, s_2), (3, s_3), (4, s_4), (8, s_8), (144, s_144), (145, s_145), (10, s_10), (11, s_11), (14, v14), (171, s_171), (172, s_172), (173, s_173), (16, s_16), (17, s_17), (199, .slice (some ⟨b, o, none⟩) nm1 cm), (200, s_200), (201, .int .i64 (p : Nat)), (20, .pointer (some ⟨w.heap.size, 0, none⟩))] a' → Q .normal a' (w.alloc (.cells #[.string s2, .int .i64 v5] 56))) : ∀ ac, Frm 345 [(2, s_2), (3, s_3), (4, s_4), (8, s_8), (144, s_144), (145, s_145), (10, s_10), (11, s_11), (14, v14), (171, s_171), (172, s_172), (173, s_173), (16, s_16), (17, s_17), (199, .slice (some ⟨b, o, none⟩) nm1 cm), (200, s_200), (201, .int .i64 (p : Nat))] ac → Code.wp Tryd.prog c_tb_r54 Q ac w := by
  refine fO (frame_tb ?_)
  intros
  rename_i hq
  iterate 17 (obtain ⟨e,hq⟩ := hq; obtain rfl := sI e; clear e)
  clear hq
  conv => arg 2; whnf
  have q0 : (0 : Int) ≤ (p : Int) := by omega
  have q1 : (p : Int) < (nm1 : Int) := by omega
  replace hN := Lib.hid hN
  go_wp2_with fail
  exact hN.out _ (by exact fR rfl rfl rfl)
def c_tb_r55 := sp 99 11432342899631 cF51
theorem tb_r55_wp (he : w.heap[gc]? = some (.cells #[.string s2, .int .i64 v5] 56 (0, 0))) (hN : ∀ a', Frm 345 [(2, s_2), (3, s_3), (4, s_4), (8, s_8), (144, s_144), (145, s_145), (10, s_10), (11, s_11), (14, v14), (171, s_171), (172, s_172), (173, s_173), (16, .string s), (17, .int .i64 x9), (199, s_199), (200, s_200), (201, s_201), (20, .pointer (some ⟨gc, 0, none⟩)), (212, .bool (decide (x9 < 0 ∧ s2 = s)))] a' → Q .normal a' w) : ∀ ac, Frm 345 [(2, s_2), (3, s_3), (4, s_4), (8, s_8), (144, s_144), (145, s_145), (10, s_10), (11, s_11), (14, v14), (171, s_171), (172, s_172), (173, s_173), (16, .string s), (17, .int .i64 x9), (199, s_199), (200, s_200), (201, s_201), (20, .pointer (some ⟨gc, 0, none⟩))] ac → Code.wp Tryd.prog c_tb_r55 Q ac w := by
  refine fO (frame_tb ?_)
  intros
  rename_i hq
  iterate 18 (obtain ⟨e,hq⟩ := hq; obtain rfl := sI e; clear e)
  clear hq
  conv => arg 2; whnf
  have e0 := cellv he 0 rfl
  have e1 := cellv he 1 rfl
  have el := lt_heap he
  clear he
  by_cases h : x9 < 0
  · have t0 : decide (x9 < 0) = true := decide_eq_true h
    by_cases h2 : s2 = s
    · have t1 : (s2.toList == s.toList) = true := by rw [h2]; simp
      rw [show decide (x9 < 0 ∧ s2 = s) = true from decide_eq_true ⟨h, h2⟩] at hN
      clear h h2
      replace hN := Lib.hid hN
      go_wp2_with fail
      exact hN.out _ (by exact fR rfl rfl rfl)
    · have t1 : (s2.toList == s.toList) = false := beq_eq_false_iff_ne.2 (fun e => h2 (bytes_inj e))
      rw [show decide (x9 < 0 ∧ s2 = s) = false from decide_eq_false (fun hh => h2 hh.2)] at hN
      clear h h2
      replace hN := Lib.hid hN
      go_wp2_with fail
      exact hN.out _ (by exact fR rfl rfl rfl)
  · have t0 : decide (x9 < 0) = false := decide_eq_false h
    rw [show decide (x9 < 0 ∧ s2 = s) = false from decide_eq_false (fun hh => h hh.1)] at hN
    clear h
    replace hN := Lib.hid hN
    go_wp2_with fail
    exact hN.out _ (by exact fR rfl rfl rfl)
def c_tb_r56 := sp 99 24626482432943 cF51
theorem tb_r56_wp (he : w.heap[gc]? = some (.cells #[.string s2, .int .i64 v5] 56 (0, 0)))  (hN : ∀ a', Frm 345 [(2, s_2), (3, s_3), (4, s_4), (8, s_8), (144, s_144), (145, s_145), (10, s_10), (11, s_11), (14, v14), (171, s_171), (172, s_172), (173, s_173), (16, s_16), (17, .int .i64 v5), (199, s_199), (200, s_200), (201, s_201), (20, .pointer (some ⟨gc, 0, none⟩))] a' → Q .normal a' w) : ∀ ac, Frm 345 [(2, s_2), (3, s_3), (4, s_4), (8, s_8), (144, s_144), (145, s_145), (10, s_10), (11, s_11), (14, v14), (171, s_171), (172, s_172), (173, s_173), (16, s_16), (17, .int .i64 x9), (199, s_199), (200, s_200), (201, s_201), (20, .pointer (some ⟨gc, 0, none⟩))] ac → Code.wp Tryd.prog c_tb_r56 Q ac w := by
  refine fO (frame_tb ?_)
  intros
  rename_i hq
  iterate 18 (obtain ⟨e,hq⟩ := hq; obtain rfl := sI e; clear e)
  clear hq
  conv => arg 2; whnf
  have e0 := cellv he 0 rfl
  have e1 := cellv he 1 rfl
  have el := lt_heap he
  clear he
  replace hN := Lib.hid hN
  go_wp2_with fail
  exact hN.out _ (by exact fR rfl rfl rfl)
def c_tb_r57 := sp 99 2086494063535 cF51
theorem tb_r57_wp (hp : p ≤ 1000)  (hN : ∀ a', Frm 345 [(2, s_2), (3, s_3), (4, s_4), (8, s_8), (144, s_144), (145, s_145), (10, s_10), (11, s_11), (14, v14), (171, s_171), (172, s_172), (173, s_173), (16, s_16), (17, s_17), (199, s_199), (200, s_200), (201, .int .i64 (p + 1 : Nat))] a' → Q .normal a' w) : ∀ ac, Frm 345 [(2, s_2), (3, s_3), (4, s_4), (8, s_8), (144, s_144), (145, s_145), (10, s_10), (11, s_11), (14, v14), (171, s_171), (172, s_172), (173, s_173), (16, s_16), (17, s_17), (199, s_199), (200, s_200), (201, .int .i64 (p : Nat))] ac → Code.wp Tryd.prog c_tb_r57 Q ac w := by
  refine fO (frame_tb ?_)
  intros
  rename_i hq
  iterate 17 (obtain ⟨e,hq⟩ := hq; obtain rfl := sI e; clear e)
  clear hq
  conv => arg 2; whnf
  have h9 : (p : Int) ≤ 1000 := by omega
  replace hN := Lib.hid hN
  go_wp2_with fail
  exact hN.out _ (by exact fR rfl rfl rfl)
def c_tb_r58 := sp 99 33499696047 cF51
theorem tb_r58_wp {n9 : Nat} {A9 : Option Addr} {c9 : Nat} {xs : List Value} {base : Nat} (hl : n9 ≤ 1000000) (hrow : w.ownsRow base 3 1 (.slice A9 n9 c9) n9 xs) (hbw : base ≤ w.heap.size) (hN : ∀ v' a' w', Frm 345 [(2, s_2), (3, s_3), (4, s_4), (8, s_8), (144, s_144), (145, s_145), (10, s_10), (11, s_11), (14, v'), (171, s_171), (172, s_172), (173, s_173)] a' → w'.ownsRow base 3 1 v' (n9 + 1) (xs ++ [.int .i64 x9]) → Below base w w' → w.heap.size ≤ w'.heap.size → (∀ k, k < w.heap.size → Value.ownBlock (.slice A9 n9 c9) ≠ some k → w'.heap[k]? = w.heap[k]?) → Q .normal a' w') : ∀ ac, Frm 345 [(2, s_2), (3, s_3), (4, s_4), (8, s_8), (144, s_144), (145, s_145), (10, s_10), (11, s_11), (14, (.slice A9 n9 c9)), (171, s_171), (172, s_172), (173, s_173), (16, s_16), (17, .int .i64 x9)] ac → Code.wp Tryd.prog c_tb_r58 Q ac w := by
  refine fO (frame_tb ?_)
  intros
  rename_i hq
  iterate 14 (obtain ⟨e,hq⟩ := hq; obtain rfl := sI e; clear e)
  clear hq
  conv => arg 2; whnf
  obtain ⟨ti, hti, ht0, ht1, ht2⟩ := info_parts infoInt
  have HN := Lib.hid hN
  have HROW := Lib.hid hrow
  clear hN hrow
  go_wp2_with (at_builtin; refine wpList_append_lies (w.alloc (.cells #[.int .i64 x9] 3)) ?h1 (.tmp 216) (.tmp 218) 44 ?h2 base 3 ti (.int .i64 0) 1 8 ?h3 hti ht0 ht1 ht2 ?h4 ?h5 (.slice A9 n9 c9) n9 xs ?h6 ?h7 ⟨w.heap.size, 0, none⟩ 1 1 [.int .i64 x9] ?h8 ?h9 ?h10 ?h11 ?h12 ?h13 ?h14 ?h15 (w.heap.size + 1) ?h16 ?_)
  try (case h1 => rfl)
  try (case h2 => rfl)
  try (case h3 => exact Tryd.underlying44)
  try (case h4 => rfl)
  try (case h5 => omega)
  try (case h6 => rfl)
  try (case h7 => exact HROW.out.alloc _)
  try (case h8 => rfl)
  try (case h9 => rfl)
  try (case h10 => exact World.news_of_block (cs := #[.int .i64 x9]) (t := 3) (fr := (0, 0)) (heap_alloc_new w _))
  try (case h11 => simp [Value.oneCell'])
  try (case h12 => omega)
  try (case h13 => first | (simp [maxLen]; omega) | (unfold maxLen; omega))
  try (case h14 => omega)
  try (case h15 => first | omega | (simp; omega))
  try (case h16 => first | rfl | simp)
  intro gg cap w6 hown3 hgrow hat hlt
  have hkp : ∀ k, k < w.heap.size → Value.ownBlock (.slice A9 n9 c9) ≠ some k → w6.heap[k]? = w.heap[k]? := fun k hk hne => (hgrow.block k (by simp; omega) (fun e => hne e.symm)).trans (heap_old hk rfl)
  have hsz6 : w.heap.size ≤ w6.heap.size := by have := hgrow.size; simp at this; omega
  have hbg : Below base w w6 := ((Below.refl base w).alloc hbw _).trans (below_of_grown9 hgrow (own_ge9 HROW.out) (by simp; omega))
  have HKP := Lib.hid hkp
  have HBG := Lib.hid hbg
  have HOWN := Lib.hid hown3
  clear hown3 hgrow hat hbg hlt hkp
  go_wp2_with fail
  exact HN.out _ _ _ (by exact fR rfl rfl rfl) HOWN.out HBG.out hsz6 HKP.out
def c_tb_r59 := sp 99 1019005871 cF51
theorem tb_r59_wp (hj : j ≤ 1000)  (hN : ∀ a', Frm 345 [(2, s_2), (3, s_3), (4, s_4), (8, s_8), (144, s_144), (145, s_145), (10, s_10), (11, s_11), (14, v14), (171, s_171), (172, s_172), (173, .int .i64 (j + 1 : Nat))] a' → Q .normal a' w) : ∀ ac, Frm 345 [(2, s_2), (3, s_3), (4, s_4), (8, s_8), (144, s_144), (145, s_145), (10, s_10), (11, s_11), (14, v14), (171, s_171), (172, s_172), (173, .int .i64 (j : Nat))] ac → Code.wp Tryd.prog c_tb_r59 Q ac w := by
  refine fO (frame_tb ?_)
  intros
  rename_i hq
  iterate 12 (obtain ⟨e,hq⟩ := hq; obtain rfl := sI e; clear e)
  clear hq
  conv => arg 2; whnf
  have h9 : (j : Int) ≤ 1000 := by omega
  replace hN := Lib.hid hN
  go_wp2_with fail
  exact hN.out _ (by exact fR rfl rfl rfl)
def c_tb_r60 := sp 99 41733039 cF51
theorem tb_r60_wp (ha : w.heap[gf]? = some (.cells #[.int .i64 kd, .string nm, .slice A n1 c1, .slice B n2 c2] 29 (0, 0))) (hN : ∀ a', Frm 345 [(2, s_2), (3, s_3), (4, .pointer (some ⟨gf, 0, none⟩)), (8, s_8), (144, s_144), (145, s_145), (10, s_10), (14, s_14), (223, .bool (decide (kd = 3)))] a' → Q .normal a' w) : ∀ ac, Frm 345 [(2, s_2), (3, s_3), (4, .pointer (some ⟨gf, 0, none⟩)), (8, s_8), (144, s_144), (145, s_145), (10, s_10), (14, s_14)] ac → Code.wp Tryd.prog c_tb_r60 Q ac w := by
  refine fO (frame_tb ?_)
  intros
  rename_i hq
  iterate 8 (obtain ⟨e,hq⟩ := hq; obtain rfl := sI e; clear e)
  clear hq
  conv => arg 2; whnf
  have a0 := cellv ha 0 rfl
  have a1 := cellv ha 1 rfl
  have a2 := cellv ha 2 rfl
  have a3 := cellv ha 3 rfl
  have al := lt_heap ha
  clear ha
  by_cases h : kd = 3
  · have t1 : (kd == 3) = true := by first | exact decide_eq_true (by omega) | exact beq_iff_eq.2 (by omega) | exact bne_iff_ne.2 (by omega)
    have t2 : (decide (kd = 3)) = true := decide_eq_true h
    rw [t2] at hN
    clear h
    replace hN := Lib.hid hN
    go_wp2_with fail
    exact hN.out _ (by exact fR rfl rfl rfl)
  · have t1 : (kd == 3) = false := by first | exact decide_eq_false (by omega) | exact beq_eq_false_iff_ne.2 (by omega) | exact bne_eq_false_iff_eq.2 (by omega)
    have t2 : (decide (kd = 3)) = false := decide_eq_false h
    rw [t2] at hN
    clear h
    replace hN := Lib.hid hN
    go_wp2_with fail
    exact hN.out _ (by exact fR rfl rfl rfl)
def c_tb_r61 := sp 99 159173551 cF51
theorem tb_r61_wp (hi : i < NN) (ho : w.cell? ⟨go, i, none⟩ = some (.bool ob)) (hf : w.frozen? ⟨go, i, none⟩ = false) (hgl : go < w.heap.size) (e0 : w.cell? ⟨b, o, none⟩ = some (.int .i64 v5)) (e1 : w.cell? ⟨b, o + 1, none⟩ = some (.int .i64 q)) (hbl : b < w.heap.size) (hN : ∀ a' w', Frm 345 [(2, s_2), (3, s_3), (4, s_4), (8, .slice (some ⟨go, 0, none⟩) NN NN), (144, s_144), (145, s_145)] a' → (w' = (w.setCell ⟨go, i, none⟩ (.bool (decide (v5 = q)))).drew ∨ w' = (w.drew).setCell ⟨go, i, none⟩ (.bool (decide (v5 = q)))) → K a' w') : ∀ ac, Frm 345 [(2, s_2), (3, s_3), (4, s_4), (8, .slice (some ⟨go, 0, none⟩) NN NN), (144, s_144), (145, s_145), (10, .int .i64 (i : Nat)), (14, .slice (some ⟨b, o, none⟩) 2 et)] ac → Code.wp Tryd.prog c_tb_r61 (Exit.then K (fun _ _ _ => False)) ac w := by
  refine fO (frame_tb ?_)
  intros
  rename_i hq
  iterate 8 (obtain ⟨e,hq⟩ := hq; obtain rfl := sI e; clear e)
  clear hq
  conv => arg 2; whnf
  have q0 : (0 : Int) ≤ (i : Int) := by omega
  have q1 : (i : Int) < (NN : Int) := by omega
  by_cases h : v5 = q
  · have t1 : (v5 == q) = true := beq_iff_eq.2 h
    rw [decide_eq_true h] at hN
    clear h
    replace hN := Lib.hid hN
    go_region
    all_goals go_wp2_with fail
    all_goals exact hN.out _ _ (by exact fR rfl rfl rfl) (by first | exact Or.inl rfl | exact Or.inr rfl)
  · have t1 : (v5 == q) = false := beq_eq_false_iff_ne.2 h
    rw [decide_eq_false h] at hN
    clear h
    replace hN := Lib.hid hN
    go_region
    all_goals go_wp2_with fail
    all_goals exact hN.out _ _ (by exact fR rfl rfl rfl) (by first | exact Or.inl rfl | exact Or.inr rfl)
def c_tb_r62 := sp 99 50121647 cF51
theorem tb_r62_wp (hgm : w.heap[gm]? = some (.cells #[.int .i64 z, .slice Am nm1 cm, .slice Bm nm2 dm] 25 (0, 0)))  (hN : ∀ a', Frm 345 [(2, s_2), (3, .pointer (some ⟨gm, 0, none⟩)), (4, s_4), (8, s_8), (144, s_144), (145, s_145), (10, s_10), (14, s_14), (235, .slice Bm nm2 dm), (236, .int .i64 (nm2 : Nat)), (237, .int .i64 (0 : Nat))] a' → Q .normal a' w) : ∀ ac, Frm 345 [(2, s_2), (3, .pointer (some ⟨gm, 0, none⟩)), (4, s_4), (8, s_8), (144, s_144), (145, s_145), (10, s_10), (14, s_14)] ac → Code.wp Tryd.prog c_tb_r62 Q ac w := by
  refine fO (frame_tb ?_)
  intros
  rename_i hq
  iterate 8 (obtain ⟨e,hq⟩ := hq; obtain rfl := sI e; clear e)
  clear hq
  conv => arg 2; whnf
  have m0 := cellv hgm 0 rfl
  have m1 := cellv hgm 1 rfl
  have m2 := cellv hgm 2 rfl
  have ml := lt_heap hgm
  clear hgm
  replace hN := Lib.hid hN
  go_wp2_with fail
  exact hN.out _ (by exact fR rfl rfl rfl)
def c_tb_r63 := sp 99 301779887 cF51
theorem tb_r63_wp (hN : ∀ a', Frm 345 [(2, s_2), (3, s_3), (4, s_4), (8, s_8), (144, s_144), (145, s_145), (10, s_10), (14, s_14), (235, s_235), (236, .int .i64 (nm2 : Nat)), (237, .int .i64 (p : Nat)), (238, .bool (decide (p < nm2)))] a' → Q .normal a' w) : ∀ ac, Frm 345 [(2, s_2), (3, s_3), (4, s_4), (8, s_8), (144, s_144), (145, s_145), (10, s_10), (14, s_14), (235, s_235), (236, .int .i64 (nm2 : Nat)), (237, .int .i64 (p : Nat))] ac → Code.wp Tryd.prog c_tb_r63 Q ac w := by
  refine fO (frame_tb ?_)
  intros
  rename_i hq
  iterate 11 (obtain ⟨e,hq⟩ := hq; obtain rfl := sI e; clear e)
  clear hq
  conv => arg 2; whnf
  by_cases h : p < nm2
  · have t1 : decide ((p : Int) < (nm2 : Int)) = true := by first | exact decide_eq_true (by omega) | exact beq_iff_eq.2 (by omega) | exact bne_iff_ne.2 (by omega)
    have t2 : (decide (p < nm2)) = true := decide_eq_true h
    rw [t2] at hN
    clear h
    replace hN := Lib.hid hN
    go_wp2_with fail
    exact hN.out _ (by exact fR rfl rfl rfl)
  · have t1 : decide ((p : Int) < (nm2 : Int)) = false := by first | exact decide_eq_false (by omega) | exact beq_eq_false_iff_ne.2 (by omega) | exact bne_eq_false_iff_eq.2 (by omega)
    have t2 : (decide (p < nm2)) = false := decide_eq_false h
    rw [t2] at hN
    clear h
    replace hN := Lib.hid hN
    go_wp2_with fail
    exact hN.out _ (by exact fR rfl rfl rfl)
def c_tb_r64 := sp 99 4730964911 cF51
theorem tb_r64_wp (hp : p < nm2) (e0 : w.cell? ⟨b, o + p * 3, none⟩ = some (.string s2)) (e1 : w.cell? ⟨b, o + p * 3 + 1, none⟩ = some (.int .i64 ra)) (e2 : w.cell? ⟨b, o + p * 3 + 2, none⟩ = some (.slice D9 a9 b9)) (hbl : b < w.heap.size)  (hN : ∀ a', Frm 345 [(2, s_2), (3, s_3), (4, s_4), (8, s_8), (144, s_144), (145, s_145), (10, s_10), (14, s_14), (235, .slice (some ⟨b, o, none⟩) nm2 dm), (236, s_236), (237, .int .i64 (p : Nat)), (22, .pointer (some ⟨w.heap.size, 0, none⟩))] a' → Q .normal a' (w.alloc (.cells #[.string s2, .int .i64 ra, .slice D9 a9 b9] 65))) : ∀ ac, Frm 345 [(2, s_2), (3, s_3), (4, s_4), (8, s_8), (144, s_144), (145, s_145), (10, s_10), (14, s_14), (235, .slice (some ⟨b, o, none⟩) nm2 dm), (236, s_236), (237, .int .i64 (p : Nat))] ac → Code.wp Tryd.prog c_tb_r64 Q ac w := by
  refine fO (frame_tb ?_)
  intros
  rename_i hq
  iterate 11 (obtain ⟨e,hq⟩ := hq; obtain rfl := sI e; clear e)
  clear hq
  conv => arg 2; whnf
  have q0 : (0 : Int) ≤ (p : Int) := by omega
  have q1 : (p : Int) < (nm2 : Int) := by omega
  replace hN := Lib.hid hN
  go_wp2_with fail
  exact hN.out _ (by exact fR rfl rfl rfl)
def c_tb_r65 := sp 99 19763350447 cF51
theorem tb_r65_wp (he : w.heap[gx]? = some (.cells #[.string s2, .int .i64 ra, .slice D9 a9 b9] 65 (0, 0))) (ha : w.heap[gf]? = some (.cells #[.int .i64 kd, .string nm, .slice A n1 c1, .slice B n2 c2] 29 (0, 0))) (hN : ∀ a', Frm 345 [(2, s_2), (3, s_3), (4, .pointer (some ⟨gf, 0, none⟩)), (8, s_8), (144, s_144), (145, s_145), (10, s_10), (14, .slice Dt nt et), (235, s_235), (236, s_236), (237, s_237), (22, .pointer (some ⟨gx, 0, none⟩)), (252, .bool (!(decide (s2 = nm) && decide (ra = (nt : Nat)))))] a' → Q .normal a' w) : ∀ ac, Frm 345 [(2, s_2), (3, s_3), (4, .pointer (some ⟨gf, 0, none⟩)), (8, s_8), (144, s_144), (145, s_145), (10, s_10), (14, .slice Dt nt et), (235, s_235), (236, s_236), (237, s_237), (22, .pointer (some ⟨gx, 0, none⟩))] ac → Code.wp Tryd.prog c_tb_r65 Q ac w := by
  refine fO (frame_tb ?_)
  intros
  rename_i hq
  iterate 12 (obtain ⟨e,hq⟩ := hq; obtain rfl := sI e; clear e)
  clear hq
  conv => arg 2; whnf
  have e0 := cellv he 0 rfl
  have e1 := cellv he 1 rfl
  have e2 := cellv he 2 rfl
  have el := lt_heap he
  have a0 := cellv ha 0 rfl
  have a1 := cellv ha 1 rfl
  have a2 := cellv ha 2 rfl
  have a3 := cellv ha 3 rfl
  have al := lt_heap ha
  clear ha
  clear he
  by_cases h : s2 = nm
  · have t1 : (s2.toList == nm.toList) = true := by rw [h]; simp
    by_cases h2 : ra = (nt : Nat)
    · have t2 : (ra != (nt : Int)) = false := bne_eq_false_iff_eq.2 h2
      rw [decide_eq_true h, decide_eq_true h2] at hN
      simp only [Bool.and_self, Bool.not_true] at hN
      clear h h2
      replace hN := Lib.hid hN
      go_wp2_with fail
      exact hN.out _ (by exact fR rfl rfl rfl)
    · have t2 : (ra != (nt : Int)) = true := bne_iff_ne.2 h2
      rw [decide_eq_true h, decide_eq_false h2] at hN
      simp only [Bool.and_false, Bool.not_false] at hN
      clear h h2
      replace hN := Lib.hid hN
      go_wp2_with fail
      exact hN.out _ (by exact fR rfl rfl rfl)
  · have t1 : (s2.toList == nm.toList) = false := beq_eq_false_iff_ne.2 (fun e => h (bytes_inj e))
    rw [decide_eq_false h] at hN
    simp only [Bool.false_and, Bool.not_false] at hN
    clear h
    replace hN := Lib.hid hN
    go_wp2_with fail
    exact hN.out _ (by exact fR rfl rfl rfl)
def c_tb_r66 := sp 99 24058317743 cF51
theorem tb_r66_wp (he : w.heap[gx]? = some (.cells #[.string s2, .int .i64 ra, .slice D9 a9 b9] 65 (0, 0)))  (hN : ∀ a', Frm 345 [(2, s_2), (3, s_3), (4, s_4), (8, s_8), (144, s_144), (145, s_145), (10, s_10), (14, s_14), (235, s_235), (236, s_236), (237, s_237), (22, .pointer (some ⟨gx, 0, none⟩)), (254, .slice D9 a9 b9), (255, .int .i64 (a9 : Nat)), (256, .int .i64 (0 : Nat))] a' → Q .normal a' w) : ∀ ac, Frm 345 [(2, s_2), (3, s_3), (4, s_4), (8, s_8), (144, s_144), (145, s_145), (10, s_10), (14, s_14), (235, s_235), (236, s_236), (237, s_237), (22, .pointer (some ⟨gx, 0, none⟩))] ac → Code.wp Tryd.prog c_tb_r66 Q ac w := by
  refine fO (frame_tb ?_)
  intros
  rename_i hq
  iterate 12 (obtain ⟨e,hq⟩ := hq; obtain rfl := sI e; clear e)
  clear hq
  conv => arg 2; whnf
  have e0 := cellv he 0 rfl
  have e1 := cellv he 1 rfl
  have e2 := cellv he 2 rfl
  have el := lt_heap he
  clear he
  replace hN := Lib.hid hN
  go_wp2_with fail
  exact hN.out _ (by exact fR rfl rfl rfl)
def c_tb_r67 := sp 99 152907336623 cF51
theorem tb_r67_wp (hN : ∀ a', Frm 345 [(2, s_2), (3, s_3), (4, s_4), (8, s_8), (144, s_144), (145, s_145), (10, s_10), (14, s_14), (235, s_235), (236, s_236), (237, s_237), (22, s_22), (254, s_254), (255, .int .i64 (a9 : Nat)), (256, .int .i64 (k : Nat)), (257, .bool (decide (k < a9)))] a' → Q .normal a' w) : ∀ ac, Frm 345 [(2, s_2), (3, s_3), (4, s_4), (8, s_8), (144, s_144), (145, s_145), (10, s_10), (14, s_14), (235, s_235), (236, s_236), (237, s_237), (22, s_22), (254, s_254), (255, .int .i64 (a9 : Nat)), (256, .int .i64 (k : Nat))] ac → Code.wp Tryd.prog c_tb_r67 Q ac w := by
  refine fO (frame_tb ?_)
  intros
  rename_i hq
  iterate 15 (obtain ⟨e,hq⟩ := hq; obtain rfl := sI e; clear e)
  clear hq
  conv => arg 2; whnf
  by_cases h : k < a9
  · have t1 : decide ((k : Int) < (a9 : Int)) = true := by first | exact decide_eq_true (by omega) | exact beq_iff_eq.2 (by omega) | exact bne_iff_ne.2 (by omega)
    have t2 : (decide (k < a9)) = true := decide_eq_true h
    rw [t2] at hN
    clear h
    replace hN := Lib.hid hN
    go_wp2_with fail
    exact hN.out _ (by exact fR rfl rfl rfl)
  · have t1 : decide ((k : Int) < (a9 : Int)) = false := by first | exact decide_eq_false (by omega) | exact beq_eq_false_iff_ne.2 (by omega) | exact bne_eq_false_iff_eq.2 (by omega)
    have t2 : (decide (k < a9)) = false := decide_eq_false h
    rw [t2] at hN
    clear h
    replace hN := Lib.hid hN
    go_wp2_with fail
    exact hN.out _ (by exact fR rfl rfl rfl)
def c_tb_r68 := sp 99 2420650068911 cF51
theorem tb_r68_wp (hk : k < a9) (e0 : w.cell? ⟨b, o + k, none⟩ = some (.slice Du nu cu)) (hbl : b < w.heap.size)  (hN : ∀ a', Frm 345 [(2, s_2), (3, s_3), (4, s_4), (8, s_8), (144, s_144), (145, s_145), (10, s_10), (14, s_14), (235, s_235), (236, s_236), (237, s_237), (22, s_22), (254, .slice (some ⟨b, o, none⟩) a9 b9), (255, s_255), (256, .int .i64 (k : Nat)), (24, .slice Du nu cu)] a' → Q .normal a' w) : ∀ ac, Frm 345 [(2, s_2), (3, s_3), (4, s_4), (8, s_8), (144, s_144), (145, s_145), (10, s_10), (14, s_14), (235, s_235), (236, s_236), (237, s_237), (22, s_22), (254, .slice (some ⟨b, o, none⟩) a9 b9), (255, s_255), (256, .int .i64 (k : Nat))] ac → Code.wp Tryd.prog c_tb_r68 Q ac w := by
  refine fO (frame_tb ?_)
  intros
  rename_i hq
  iterate 15 (obtain ⟨e,hq⟩ := hq; obtain rfl := sI e; clear e)
  clear hq
  conv => arg 2; whnf
  have q0 : (0 : Int) ≤ (k : Int) := by omega
  have q1 : (k : Int) < (a9 : Int) := by omega
  replace hN := Lib.hid hN
  go_wp2_with fail
  exact hN.out _ (by exact fR rfl rfl rfl)
def c_tb_r69 := sp 99 5719184952239 cF51
theorem tb_r69_wp {k0 : Int} {k1 : Int} (hgm : w.heap[gm]? = some (.cells #[.int .i64 z, .slice Am nm1 cm, .slice Bm nm2 dm] 25 (0, 0))) (hc1 : ∀ W : World, (∀ k, k < w.heap.size → W.heap[k]? = w.heap[k]?) → Calls Tryd.prog 72 #[.slice Du nu cu, .int .i64 z] W fun e w' => e = .returned (.int .i64 k0) ∧ w' = W) (hc2 : ∀ W : World, (∀ k, k < w.heap.size → W.heap[k]? = w.heap[k]?) → Calls Tryd.prog 72 #[.slice Dt nt et, .int .i64 z] W fun e w' => e = .returned (.int .i64 k1) ∧ w' = W) (hN : ∀ a' w', Frm 345 [(2, s_2), (3, .pointer (some ⟨gm, 0, none⟩)), (4, s_4), (8, s_8), (144, s_144), (145, s_145), (10, s_10), (14, .slice Dt nt et), (235, s_235), (236, s_236), (237, s_237), (22, s_22), (254, s_254), (255, s_255), (256, s_256), (24, .slice Du nu cu), (268, .bool (decide (k0 = k1)))] a' → Below w.heap.size w w' → K a' w') : ∀ ac, Frm 345 [(2, s_2), (3, .pointer (some ⟨gm, 0, none⟩)), (4, s_4), (8, s_8), (144, s_144), (145, s_145), (10, s_10), (14, .slice Dt nt et), (235, s_235), (236, s_236), (237, s_237), (22, s_22), (254, s_254), (255, s_255), (256, s_256), (24, .slice Du nu cu)] ac → Code.wp Tryd.prog c_tb_r69 (Exit.then K (fun _ _ _ => False)) ac w := by
  refine fO (frame_tb ?_)
  intros
  rename_i hq
  iterate 16 (obtain ⟨e,hq⟩ := hq; obtain rfl := sI e; clear e)
  clear hq
  conv => arg 2; whnf
  have m0 := cellv hgm 0 rfl
  have m1 := cellv hgm 1 rfl
  have m2 := cellv hgm 2 rfl
  have ml := lt_heap hgm
  clear hgm
  by_cases h : k0 = k1
  · have t1 : (k0 == k1) = true := beq_iff_eq.2 h
    rw [decide_eq_true h] at hN
    clear h
    have HC1 := Lib.hid hc1
    have HC2 := Lib.hid hc2
    have HN := Lib.hid hN
    clear hc1 hc2 hN
    go_region_held3 (fun w' => w'.cell? ⟨gm, 0, none⟩ = some (.int .i64 z))
      ((go_keep; done))
      (first
        | ((with_reducible refine (HC1.out _ ?hk).mono ?_); (case hk => (intro k hk; first | rfl | exact heap_drew rfl)); rintro e w4 ⟨rfl, rfl⟩)
        | ((with_reducible refine (HC2.out _ ?hk).mono ?_); (case hk => (intro k hk; first | rfl | exact heap_drew rfl)); rintro e w4 ⟨rfl, rfl⟩)
        | fail)
    all_goals go_wp2_with fail
    all_goals exact HN.out _ _ (by exact fR rfl rfl rfl) (by first | exact Below.refl _ _ | exact (Below.refl _ _).drew | go_grown)
  · have t1 : (k0 == k1) = false := beq_eq_false_iff_ne.2 h
    rw [decide_eq_false h] at hN
    clear h
    have HC1 := Lib.hid hc1
    have HC2 := Lib.hid hc2
    have HN := Lib.hid hN
    clear hc1 hc2 hN
    go_region_held3 (fun w' => w'.cell? ⟨gm, 0, none⟩ = some (.int .i64 z))
      ((go_keep; done))
      (first
        | ((with_reducible refine (HC1.out _ ?hk).mono ?_); (case hk => (intro k hk; first | rfl | exact heap_drew rfl)); rintro e w4 ⟨rfl, rfl⟩)
        | ((with_reducible refine (HC2.out _ ?hk).mono ?_); (case hk => (intro k hk; first | rfl | exact heap_drew rfl)); rintro e w4 ⟨rfl, rfl⟩)
        | fail)
    all_goals go_wp2_with fail
    all_goals exact HN.out _ _ (by exact fR rfl rfl rfl) (by first | exact Below.refl _ _ | exact (Below.refl _ _).drew | go_grown)
def c_tb_r70 := sp 99 12316254718895 cF51
theorem tb_r70_wp {s_24 : Value} (hi : i < NN) (ho : w.cell? ⟨go, i, none⟩ = some (.bool ob)) (hf : w.frozen? ⟨go, i, none⟩ = false) (hgl : go < w.heap.size)  (hN : ∀ a', Frm 345 [(2, s_2), (3, s_3), (4, s_4), (8, .slice (some ⟨go, 0, none⟩) NN NN), (144, s_144), (145, s_145), (10, .int .i64 (i : Nat)), (14, s_14), (235, s_235), (236, s_236), (237, s_237), (22, s_22), (254, s_254), (255, s_255), (256, s_256)] a' → Q .normal a' (w.setCell ⟨go, i, none⟩ (.bool true))) : ∀ ac, Frm 345 [(2, s_2), (3, s_3), (4, s_4), (8, .slice (some ⟨go, 0, none⟩) NN NN), (144, s_144), (145, s_145), (10, .int .i64 (i : Nat)), (14, s_14), (235, s_235), (236, s_236), (237, s_237), (22, s_22), (254, s_254), (255, s_255), (256, s_256), (24, s_24)] ac → Code.wp Tryd.prog c_tb_r70 Q ac w := by
  refine fO (frame_tb ?_)
  intros
  rename_i hq
  iterate 16 (obtain ⟨e,hq⟩ := hq; obtain rfl := sI e; clear e)
  clear hq
  conv => arg 2; whnf
  have q0 : (0 : Int) ≤ (i : Int) := by omega
  have q1 : (i : Int) < (NN : Int) := by omega
  replace hN := Lib.hid hN
  go_wp2_with fail
  exact hN.out _ (by exact fR rfl rfl rfl)
def c_tb_r71 := sp 99 1046260534191 cF51
theorem tb_r71_wp (hk : k ≤ 1000000)  (hN : ∀ a', Frm 345 [(2, s_2), (3, s_3), (4, s_4), (8, s_8), (144, s_144), (145, s_145), (10, s_10), (14, s_14), (235, s_235), (236, s_236), (237, s_237), (22, s_22), (254, s_254), (255, s_255), (256, .int .i64 (k + 1 : Nat))] a' → Q .normal a' w) : ∀ ac, Frm 345 [(2, s_2), (3, s_3), (4, s_4), (8, s_8), (144, s_144), (145, s_145), (10, s_10), (14, s_14), (235, s_235), (236, s_236), (237, s_237), (22, s_22), (254, s_254), (255, s_255), (256, .int .i64 (k : Nat))] ac → Code.wp Tryd.prog c_tb_r71 Q ac w := by
  refine fO (frame_tb ?_)
  intros
  rename_i hq
  iterate 15 (obtain ⟨e,hq⟩ := hq; obtain rfl := sI e; clear e)
  clear hq
  conv => arg 2; whnf
  have h9 : (k : Int) ≤ 1000000 := by omega
  replace hN := Lib.hid hN
  go_wp2_with fail
  exact hN.out _ (by exact fR rfl rfl rfl)
def c_tb_r72 := sp 99 2046610351 cF51
theorem tb_r72_wp (hp : p ≤ 1000)  (hN : ∀ a', Frm 345 [(2, s_2), (3, s_3), (4, s_4), (8, s_8), (144, s_144), (145, s_145), (10, s_10), (14, s_14), (235, s_235), (236, s_236), (237, .int .i64 (p + 1 : Nat))] a' → Q .normal a' w) : ∀ ac, Frm 345 [(2, s_2), (3, s_3), (4, s_4), (8, s_8), (144, s_144), (145, s_145), (10, s_10), (14, s_14), (235, s_235), (236, s_236), (237, .int .i64 (p : Nat))] ac → Code.wp Tryd.prog c_tb_r72 Q ac w := by
  refine fO (frame_tb ?_)
  intros
  rename_i hq
  iterate 11 (obtain ⟨e,hq⟩ := hq; obtain rfl := sI e; clear e)
  clear hq
  conv => arg 2; whnf
  have h9 : (p : Int) ≤ 1000 := by omega
  replace hN := Lib.hid hN
  go_wp2_with fail
  exact hN.out _ (by exact fR rfl rfl rfl)
def c_tb_r73 := sp 99 248751 cF51
theorem tb_r73_wp (hi : i ≤ 100000)  (hN : ∀ a', Frm 345 [(2, s_2), (3, s_3), (4, s_4), (8, s_8), (144, s_144), (145, .int .i64 (i + 1 : Nat))] a' → Q .normal a' w) : ∀ ac, Frm 345 [(2, s_2), (3, s_3), (4, s_4), (8, s_8), (144, s_144), (145, .int .i64 (i : Nat))] ac → Code.wp Tryd.prog c_tb_r73 Q ac w := by
  refine fO (frame_tb ?_)
  intros
  rename_i hq
  iterate 6 (obtain ⟨e,hq⟩ := hq; obtain rfl := sI e; clear e)
  clear hq
  conv => arg 2; whnf
  have h9 : (i : Int) ≤ 100000 := by omega
  replace hN := Lib.hid hN
  go_wp2_with fail
  exact hN.out _ (by exact fR rfl rfl rfl)
end

end Go.Proofs.YtflcbbikfdahhaaDoor
