/-
  The reference's TermFault, the code that it finds for one node (a chain of ifs), kind by kind.
-/
import Derived.Test.YthflahcnkhmpaaaDoorProg
import Derived.Test.YthflahcnkhmpaaaDoorTerm
import Derived.Test.YthflahcnkhmpaaaDoorFault
import Derived.Test.YthflahcnkhmpaaaDoorName
import Derived.Test.YthflahcnkhmpaaaDoorSets
import Derived.Deep.DeepCutAuto
namespace Go.Proofs.YthflahcnkhmpaaaDoor
open Go Go.RowKit
set_option linter.unusedSimpArgs false
set_option linter.unusedVariables false

/-- The if whose condition lies in slot n. -/
def findIf (n : Nat) : Code → Option Code
  | .cond (.tmp m) a b => if m = n then some (.cond (.tmp m) a b) else match findIf n a with
    | some c => some c
    | none => findIf n b
  | .seq a b => match findIf n a with
    | some c => some c
    | none => findIf n b
  | .block _ c => findIf n c
  | .scope c => findIf n c
  | .loop c => findIf n c
  | _ => none
noncomputable def nodeIf : Code := ((Tryd.f34.body.bind (findIf 41)).getD .skip)

theorem nonempty_of {s : ByteArray} (h : s ≠ bNil) : s.toList.isEmpty = false := by
  cases e : s.toList.isEmpty
  · rfl
  · exact absurd (bytes_inj (by rw [List.isEmpty_iff.1 e]; simp [bNil])) h

set_option maxRecDepth 1000000 in
set_option maxHeartbeats 16000000 in
theorem node_wp0 {x0 x1 x2 x3 x4 x8 x9 x10 x11 x12 x13 x14 x15 x16 x17 x18 x19 x20 x21 x22 x23 x24 x25 x26 x27 x28 x29 x30 x31 x32 x33 x34 x35 x36 x37 x38 x39 x40 x42 x43 x44 x45 x46 x47 x48 x49 x50 x51 x52 x53 x54 x55 x56 x57 x58 x59 x60 x61 x62 x63 x64 x65 x66 x67 x68 x69 x70 x71 x72 x73 x74 x75 x76 x77 x78 x79 x80 x81 x82 x83 x84 x85 x86 x87 x88 x89 x90 x91 x92 x93 x94 x95 x96 x97 x98 x99 x100 x101 x102 x103 x104 x105 x106 x107 x108 x109 x110 x111 x112 x113 x114 x115 x116 x117 x118 x119 x120 x121 x122 x123 x124 x125 x126 x127 x128 x129 x130 x131 x132 x133 x134 x135 x136 x137 x138 x139 x140 x141 x142 x143 x144 x145 x146 x147 x148 x149 x150 x151 x152 x153 x154 x155 x156 x157 x158 x159 x160 x161 x162 x163 x164 x165 x166 x167 x168 x169 x170 x171 x172 x173 x174 x175 x176 : Value} {K : Act → World → Prop} {Q' : Exit → Act → World → Prop} {b5 b6 : Nat} {b41 : Bool} {wx : World} {S : Nat → Prop} {kk : Int} {nm sa : ByteArray} {ix : Int} {ty : Ty} {l : List Tm} {A Aa : Option Addr} {c na ca d bd : Nat}
    (h1 : ¬ kk = 1) (h2 : ¬ kk = 2) (h3 : ¬ kk = 3) (h4 : ¬ kk = 4) (h41 : b41 = false) (hnm : nm.size ≤ maxLen) (hty : Ty.In wx S ty (.string sa) (.slice Aa na ca)) (hS : ∀ b, S b → b < wx.heap.size) (hm : l.length ≤ 9223372036854775807) (hbd : bd ≤ 1000)
    (px : wx.heap[b5]? = some (.cells #[.int .i64 kk, .string nm, .int .i64 ix, .string sa, .slice Aa na ca, .slice A l.length c, .int .i64 d, .int .i64 bd] 81 (0, 0)))
    (pu : wx.heap[b6]? = some (.cells #[.int .i64 kk, .string nm, .int .i64 ix, .string sa, .slice Aa na ca, .slice A l.length c] 49 (0, 0)))
    (hK : ∀ (y8 y9 y42 y43 y44 y45 y46 y47 y48 y49 y50 y51 y52 y53 y54 y55 y56 y57 y58 y59 y60 y61 y62 y63 y64 y65 y66 y67 y68 y69 y70 y71 y72 y73 y74 y75 y76 y77 y78 y79 y80 y81 y82 y83 y84 y85 y86 y87 y88 y89 y90 y91 y92 y93 y94 y95 y96 y97 y98 y99 y100 y101 y102 y103 y104 y105 y106 y107 y108 y109 y110 y111 y112 y113 y114 y115 y116 y117 y118 y119 y120 y121 y122 y123 y124 y125 y126 y127 y128 y129 y130 y131 y132 y133 y134 : Value) (wy : World), Below wx.heap.size wx wy → K ⟨#[x0, x1, x2, x3, x4, .pointer (some ⟨b5, 0, none⟩), .pointer (some ⟨b6, 0, none⟩), .int .i64 ((TmL.code ⟨kk, nm, ix, ty⟩ l.length bd : Nat) : Int), y8, y9, x10, x11, x12, x13, x14, x15, x16, x17, x18, x19, x20, x21, x22, x23, x24, x25, x26, x27, x28, x29, x30, x31, x32, x33, x34, x35, x36, x37, x38, x39, x40, .bool b41, y42, y43, y44, y45, y46, y47, y48, y49, y50, y51, y52, y53, y54, y55, y56, y57, y58, y59, y60, y61, y62, y63, y64, y65, y66, y67, y68, y69, y70, y71, y72, y73, y74, y75, y76, y77, y78, y79, y80, y81, y82, y83, y84, y85, y86, y87, y88, y89, y90, y91, y92, y93, y94, y95, y96, y97, y98, y99, y100, y101, y102, y103, y104, y105, y106, y107, y108, y109, y110, y111, y112, y113, y114, y115, y116, y117, y118, y119, y120, y121, y122, y123, y124, y125, y126, y127, y128, y129, y130, y131, y132, y133, y134, x135, x136, x137, x138, x139, x140, x141, x142, x143, x144, x145, x146, x147, x148, x149, x150, x151, x152, x153, x154, x155, x156, x157, x158, x159, x160, x161, x162, x163, x164, x165, x166, x167, x168, x169, x170, x171, x172, x173, x174, x175, x176], []⟩ wy) :
    Code.wp Tryd.prog nodeIf (Exit.then K Q') ⟨#[x0, x1, x2, x3, x4, .pointer (some ⟨b5, 0, none⟩), .pointer (some ⟨b6, 0, none⟩), .int .i64 0, x8, x9, x10, x11, x12, x13, x14, x15, x16, x17, x18, x19, x20, x21, x22, x23, x24, x25, x26, x27, x28, x29, x30, x31, x32, x33, x34, x35, x36, x37, x38, x39, x40, .bool b41, x42, x43, x44, x45, x46, x47, x48, x49, x50, x51, x52, x53, x54, x55, x56, x57, x58, x59, x60, x61, x62, x63, x64, x65, x66, x67, x68, x69, x70, x71, x72, x73, x74, x75, x76, x77, x78, x79, x80, x81, x82, x83, x84, x85, x86, x87, x88, x89, x90, x91, x92, x93, x94, x95, x96, x97, x98, x99, x100, x101, x102, x103, x104, x105, x106, x107, x108, x109, x110, x111, x112, x113, x114, x115, x116, x117, x118, x119, x120, x121, x122, x123, x124, x125, x126, x127, x128, x129, x130, x131, x132, x133, x134, x135, x136, x137, x138, x139, x140, x141, x142, x143, x144, x145, x146, x147, x148, x149, x150, x151, x152, x153, x154, x155, x156, x157, x158, x159, x160, x161, x162, x163, x164, x165, x166, x167, x168, x169, x170, x171, x172, x173, x174, x175, x176], []⟩ wx := by
  subst h41
  have q3 : (0 : Int) ≤ (l.length : Int) := by omega
  have hbl := fun (o : Obj) => refBlank_any ty _ _ (wx.alloc o) S (hty.keep (fun k hk => heap_old (hS k hk) rfl))
  have hna := fun (o : Obj) => refName_any nm (wx.alloc o) hnm
  have hfa := fun (o : Obj) => refFault_any ty _ _ (wx.alloc o) S (hty.keep (fun k hk => heap_old (hS k hk) rfl)) (fun k hk => by have := hS k hk; simp; omega)
  have hba : ∀ o, Below wx.heap.size wx (wx.alloc o) := fun o => (Below.refl _ _).alloc (Nat.le_refl _) _
  have t0 := empty_nil
  clear hnm hty hS
  have HBL := Lib.hid hbl
  have HNA := Lib.hid hna
  have HFA := Lib.hid hfa
  have HBA := Lib.hid hba
  have HK := Lib.hid hK
  clear hbl hna hfa hba hK
  have px_0 := cv0 px
  have px_1 := cv1 px
  have px_2 := cv2 px
  have px_3 := cv3 px
  have px_4 := cv4 px
  have px_5 := cv5 px
  have px_6 := cv6 px
  have px_7 := cv7 px
  have px_l := lt_heap px
  have PX := Lib.hid px
  clear px
  have pu_0 := cv0 pu
  have pu_1 := cv1 pu
  have pu_2 := cv2 pu
  have pu_3 := cv3 pu
  have pu_4 := cv4 pu
  have pu_5 := cv5 pu
  have pu_l := lt_heap pu
  have PU := Lib.hid pu
  clear pu
  conv => arg 2; whnf
  have HC := Lib.hid (show TmL.code ⟨kk, nm, ix, ty⟩ l.length bd = 4 from by simp [TmL.code, h1, h2, h3, h4])
  have HKX := HK
  by_cases g7 : kk < 1
  · go_wp2_with fail
    simp only [HC.out] at HKX
    exact HKX.out _ _ _ _ _ _ _ _ _ _ _ _ _ _ _ _ _ _ _ _ _ _ _ _ _ _ _ _ _ _ _ _ _ _ _ _ _ _ _ _ _ _ _ _ _ _ _ _ _ _ _ _ _ _ _ _ _ _ _ _ _ _ _ _ _ _ _ _ _ _ _ _ _ _ _ _ _ _ _ _ _ _ _ _ _ _ _ _ _ _ _ _ _ _ _ _ (Below.refl _ _)
  have g8 : 4 < kk := by omega
  go_wp2_with fail
  simp only [HC.out] at HKX
  exact HKX.out _ _ _ _ _ _ _ _ _ _ _ _ _ _ _ _ _ _ _ _ _ _ _ _ _ _ _ _ _ _ _ _ _ _ _ _ _ _ _ _ _ _ _ _ _ _ _ _ _ _ _ _ _ _ _ _ _ _ _ _ _ _ _ _ _ _ _ _ _ _ _ _ _ _ _ _ _ _ _ _ _ _ _ _ _ _ _ _ _ _ _ _ _ _ _ _ (Below.refl _ _)

set_option maxRecDepth 1000000 in
set_option maxHeartbeats 16000000 in
theorem node_wp1 {x0 x1 x2 x3 x4 x8 x9 x10 x11 x12 x13 x14 x15 x16 x17 x18 x19 x20 x21 x22 x23 x24 x25 x26 x27 x28 x29 x30 x31 x32 x33 x34 x35 x36 x37 x38 x39 x40 x42 x43 x44 x45 x46 x47 x48 x49 x50 x51 x52 x53 x54 x55 x56 x57 x58 x59 x60 x61 x62 x63 x64 x65 x66 x67 x68 x69 x70 x71 x72 x73 x74 x75 x76 x77 x78 x79 x80 x81 x82 x83 x84 x85 x86 x87 x88 x89 x90 x91 x92 x93 x94 x95 x96 x97 x98 x99 x100 x101 x102 x103 x104 x105 x106 x107 x108 x109 x110 x111 x112 x113 x114 x115 x116 x117 x118 x119 x120 x121 x122 x123 x124 x125 x126 x127 x128 x129 x130 x131 x132 x133 x134 x135 x136 x137 x138 x139 x140 x141 x142 x143 x144 x145 x146 x147 x148 x149 x150 x151 x152 x153 x154 x155 x156 x157 x158 x159 x160 x161 x162 x163 x164 x165 x166 x167 x168 x169 x170 x171 x172 x173 x174 x175 x176 : Value} {K : Act → World → Prop} {Q' : Exit → Act → World → Prop} {b5 b6 : Nat} {b41 : Bool} {wx : World} {S : Nat → Prop} {nm sa : ByteArray} {ix : Int} {ty : Ty} {l : List Tm} {A Aa : Option Addr} {c na ca d bd : Nat}
    (h41 : b41 = false) (hnm : nm.size ≤ maxLen) (hty : Ty.In wx S ty (.string sa) (.slice Aa na ca)) (hS : ∀ b, S b → b < wx.heap.size) (hm : l.length ≤ 9223372036854775807) (hbd : bd ≤ 1000)
    (px : wx.heap[b5]? = some (.cells #[.int .i64 1, .string nm, .int .i64 ix, .string sa, .slice Aa na ca, .slice A l.length c, .int .i64 d, .int .i64 bd] 81 (0, 0)))
    (pu : wx.heap[b6]? = some (.cells #[.int .i64 1, .string nm, .int .i64 ix, .string sa, .slice Aa na ca, .slice A l.length c] 49 (0, 0)))
    (hK : ∀ (y8 y9 y42 y43 y44 y45 y46 y47 y48 y49 y50 y51 y52 y53 y54 y55 y56 y57 y58 y59 y60 y61 y62 y63 y64 y65 y66 y67 y68 y69 y70 y71 y72 y73 y74 y75 y76 y77 y78 y79 y80 y81 y82 y83 y84 y85 y86 y87 y88 y89 y90 y91 y92 y93 y94 y95 y96 y97 y98 y99 y100 y101 y102 y103 y104 y105 y106 y107 y108 y109 y110 y111 y112 y113 y114 y115 y116 y117 y118 y119 y120 y121 y122 y123 y124 y125 y126 y127 y128 y129 y130 y131 y132 y133 y134 : Value) (wy : World), Below wx.heap.size wx wy → K ⟨#[x0, x1, x2, x3, x4, .pointer (some ⟨b5, 0, none⟩), .pointer (some ⟨b6, 0, none⟩), .int .i64 ((TmL.code ⟨1, nm, ix, ty⟩ l.length bd : Nat) : Int), y8, y9, x10, x11, x12, x13, x14, x15, x16, x17, x18, x19, x20, x21, x22, x23, x24, x25, x26, x27, x28, x29, x30, x31, x32, x33, x34, x35, x36, x37, x38, x39, x40, .bool b41, y42, y43, y44, y45, y46, y47, y48, y49, y50, y51, y52, y53, y54, y55, y56, y57, y58, y59, y60, y61, y62, y63, y64, y65, y66, y67, y68, y69, y70, y71, y72, y73, y74, y75, y76, y77, y78, y79, y80, y81, y82, y83, y84, y85, y86, y87, y88, y89, y90, y91, y92, y93, y94, y95, y96, y97, y98, y99, y100, y101, y102, y103, y104, y105, y106, y107, y108, y109, y110, y111, y112, y113, y114, y115, y116, y117, y118, y119, y120, y121, y122, y123, y124, y125, y126, y127, y128, y129, y130, y131, y132, y133, y134, x135, x136, x137, x138, x139, x140, x141, x142, x143, x144, x145, x146, x147, x148, x149, x150, x151, x152, x153, x154, x155, x156, x157, x158, x159, x160, x161, x162, x163, x164, x165, x166, x167, x168, x169, x170, x171, x172, x173, x174, x175, x176], []⟩ wy) :
    Code.wp Tryd.prog nodeIf (Exit.then K Q') ⟨#[x0, x1, x2, x3, x4, .pointer (some ⟨b5, 0, none⟩), .pointer (some ⟨b6, 0, none⟩), .int .i64 0, x8, x9, x10, x11, x12, x13, x14, x15, x16, x17, x18, x19, x20, x21, x22, x23, x24, x25, x26, x27, x28, x29, x30, x31, x32, x33, x34, x35, x36, x37, x38, x39, x40, .bool b41, x42, x43, x44, x45, x46, x47, x48, x49, x50, x51, x52, x53, x54, x55, x56, x57, x58, x59, x60, x61, x62, x63, x64, x65, x66, x67, x68, x69, x70, x71, x72, x73, x74, x75, x76, x77, x78, x79, x80, x81, x82, x83, x84, x85, x86, x87, x88, x89, x90, x91, x92, x93, x94, x95, x96, x97, x98, x99, x100, x101, x102, x103, x104, x105, x106, x107, x108, x109, x110, x111, x112, x113, x114, x115, x116, x117, x118, x119, x120, x121, x122, x123, x124, x125, x126, x127, x128, x129, x130, x131, x132, x133, x134, x135, x136, x137, x138, x139, x140, x141, x142, x143, x144, x145, x146, x147, x148, x149, x150, x151, x152, x153, x154, x155, x156, x157, x158, x159, x160, x161, x162, x163, x164, x165, x166, x167, x168, x169, x170, x171, x172, x173, x174, x175, x176], []⟩ wx := by
  subst h41
  have q3 : (0 : Int) ≤ (l.length : Int) := by omega
  have hbl := fun (o : Obj) => refBlank_any ty _ _ (wx.alloc o) S (hty.keep (fun k hk => heap_old (hS k hk) rfl))
  have hna := fun (o : Obj) => refName_any nm (wx.alloc o) hnm
  have hfa := fun (o : Obj) => refFault_any ty _ _ (wx.alloc o) S (hty.keep (fun k hk => heap_old (hS k hk) rfl)) (fun k hk => by have := hS k hk; simp; omega)
  have hba : ∀ o, Below wx.heap.size wx (wx.alloc o) := fun o => (Below.refl _ _).alloc (Nat.le_refl _) _
  have t0 := empty_nil
  clear hnm hty hS
  have HBL := Lib.hid hbl
  have HNA := Lib.hid hna
  have HFA := Lib.hid hfa
  have HBA := Lib.hid hba
  have HK := Lib.hid hK
  clear hbl hna hfa hba hK
  have px_0 := cv0 px
  have px_1 := cv1 px
  have px_2 := cv2 px
  have px_3 := cv3 px
  have px_4 := cv4 px
  have px_5 := cv5 px
  have px_6 := cv6 px
  have px_7 := cv7 px
  have px_l := lt_heap px
  have PX := Lib.hid px
  clear px
  have pu_0 := cv0 pu
  have pu_1 := cv1 pu
  have pu_2 := cv2 pu
  have pu_3 := cv3 pu
  have pu_4 := cv4 pu
  have pu_5 := cv5 pu
  have pu_l := lt_heap pu
  have PU := Lib.hid pu
  clear pu
  conv => arg 2; whnf
  by_cases g1 : l.length = 0
  case neg =>
    have t1 : ((l.length : Int) == 0) = false := beq_eq_false_iff_ne.2 (by omega)
    have HC := Lib.hid (show TmL.code ⟨1, nm, ix, ty⟩ l.length bd = 5 from by simp [TmL.code, g1])
    have HKX := HK
    clear g1
    go_wp2_with fail
    simp only [HC.out] at HKX
    exact HKX.out _ _ _ _ _ _ _ _ _ _ _ _ _ _ _ _ _ _ _ _ _ _ _ _ _ _ _ _ _ _ _ _ _ _ _ _ _ _ _ _ _ _ _ _ _ _ _ _ _ _ _ _ _ _ _ _ _ _ _ _ _ _ _ _ _ _ _ _ _ _ _ _ _ _ _ _ _ _ _ _ _ _ _ _ _ _ _ _ _ _ _ _ _ _ _ _ (HBA.out _)
  have t1 : ((l.length : Int) == 0) = true := by rw [g1]; rfl
  by_cases g2 : ix = 0
  case neg =>
    have t2 : (ix == 0) = false := beq_eq_false_iff_ne.2 g2
    have HC := Lib.hid (show TmL.code ⟨1, nm, ix, ty⟩ l.length bd = 5 from by simp [TmL.code, g2])
    have HKX := HK
    clear g2
    go_wp2_with fail
    simp only [HC.out] at HKX
    exact HKX.out _ _ _ _ _ _ _ _ _ _ _ _ _ _ _ _ _ _ _ _ _ _ _ _ _ _ _ _ _ _ _ _ _ _ _ _ _ _ _ _ _ _ _ _ _ _ _ _ _ _ _ _ _ _ _ _ _ _ _ _ _ _ _ _ _ _ _ _ _ _ _ _ _ _ _ _ _ _ _ _ _ _ _ _ _ _ _ _ _ _ _ _ _ _ _ _ (HBA.out _)
  have t2 : (ix == 0) = true := by rw [g2]; rfl
  cases g4 : okName nm with
  | false =>
    have HC := Lib.hid (show TmL.code ⟨1, nm, ix, ty⟩ l.length bd = 10 from by simp [TmL.code, g1, g2, g4])
    have HKX := HK
    have G4 := Lib.hid g4
    clear g4
    go_wp2_with fail
    (with_reducible refine (HNA.out _).mono ?_)
    rw [G4.out]
    rintro e w5 ⟨rfl, rfl⟩
    go_wp2_with fail
    simp only [HC.out] at HKX
    exact HKX.out _ _ _ _ _ _ _ _ _ _ _ _ _ _ _ _ _ _ _ _ _ _ _ _ _ _ _ _ _ _ _ _ _ _ _ _ _ _ _ _ _ _ _ _ _ _ _ _ _ _ _ _ _ _ _ _ _ _ _ _ _ _ _ _ _ _ _ _ _ _ _ _ _ _ _ _ _ _ _ _ _ _ _ _ _ _ _ _ _ _ _ _ _ _ _ _ (HBA.out _)
  | true =>
    have G4 := Lib.hid g4
    by_cases g5 : ty.fault = 0
    case neg =>
      have HC := Lib.hid (show TmL.code ⟨1, nm, ix, ty⟩ l.length bd = 12 from by simp [TmL.code, g1, g2, g4, g5])
      have HKX := HK
      have t5 : ((ty.fault : Int) != 0) = true := bne_iff_ne.2 (by omega)
      clear g4
      go_wp2_with fail
      (with_reducible refine (HNA.out _).mono ?_)
      rw [G4.out]
      rintro e w5 ⟨rfl, rfl⟩
      go_wp2_with fail
      (with_reducible refine (HFA.out _).mono ?_)
      rintro e w5 ⟨rfl, hw5⟩
      have HW5 := Lib.hid ((HBA.out _).trans (hw5.mono (by simp)))
      clear hw5
      have pu5 := (HW5.out.block _ pu_l).trans PU.out
      have px5 := (HW5.out.block _ px_l).trans PX.out
      have z6 := HW5.out.size
      clear pu_0 pu_1 pu_2 pu_3 pu_4 pu_5 px_0 px_1 px_2 px_3 px_4 px_5 px_6 px_7
      have pu5_0 := cv0 pu5
      have pu5_1 := cv1 pu5
      have pu5_2 := cv2 pu5
      have pu5_3 := cv3 pu5
      have pu5_4 := cv4 pu5
      have pu5_5 := cv5 pu5
      have pu5_l := lt_heap pu5
      have PU5 := Lib.hid pu5
      clear pu5
      have px5_0 := cv0 px5
      have px5_1 := cv1 px5
      have px5_2 := cv2 px5
      have px5_3 := cv3 px5
      have px5_4 := cv4 px5
      have px5_5 := cv5 px5
      have px5_6 := cv6 px5
      have px5_7 := cv7 px5
      have px5_l := lt_heap px5
      have PX5 := Lib.hid px5
      clear px5
      go_wp2_with fail
      simp only [HC.out] at HKX
      exact HKX.out _ _ _ _ _ _ _ _ _ _ _ _ _ _ _ _ _ _ _ _ _ _ _ _ _ _ _ _ _ _ _ _ _ _ _ _ _ _ _ _ _ _ _ _ _ _ _ _ _ _ _ _ _ _ _ _ _ _ _ _ _ _ _ _ _ _ _ _ _ _ _ _ _ _ _ _ _ _ _ _ _ _ _ _ _ _ _ _ _ _ _ _ _ _ _ _ HW5.out
    have HC := Lib.hid (show TmL.code ⟨1, nm, ix, ty⟩ l.length bd = 0 from by simp [TmL.code, g1, g2, g4, g5])
    have HKX := HK
    have t5 : ((ty.fault : Int) != 0) = false := by rw [g5]; rfl
    clear g4
    go_wp2_with fail
    (with_reducible refine (HNA.out _).mono ?_)
    rw [G4.out]
    rintro e w5 ⟨rfl, rfl⟩
    go_wp2_with fail
    (with_reducible refine (HFA.out _).mono ?_)
    rintro e w5 ⟨rfl, hw5⟩
    have HW5 := Lib.hid ((HBA.out _).trans (hw5.mono (by simp)))
    clear hw5
    have pu5 := (HW5.out.block _ pu_l).trans PU.out
    have px5 := (HW5.out.block _ px_l).trans PX.out
    have z6 := HW5.out.size
    clear pu_0 pu_1 pu_2 pu_3 pu_4 pu_5 px_0 px_1 px_2 px_3 px_4 px_5 px_6 px_7
    have pu5_0 := cv0 pu5
    have pu5_1 := cv1 pu5
    have pu5_2 := cv2 pu5
    have pu5_3 := cv3 pu5
    have pu5_4 := cv4 pu5
    have pu5_5 := cv5 pu5
    have pu5_l := lt_heap pu5
    have PU5 := Lib.hid pu5
    clear pu5
    have px5_0 := cv0 px5
    have px5_1 := cv1 px5
    have px5_2 := cv2 px5
    have px5_3 := cv3 px5
    have px5_4 := cv4 px5
    have px5_5 := cv5 px5
    have px5_6 := cv6 px5
    have px5_7 := cv7 px5
    have px5_l := lt_heap px5
    have PX5 := Lib.hid px5
    clear px5
    go_wp2_with fail
    simp only [HC.out] at HKX
    exact HKX.out _ _ _ _ _ _ _ _ _ _ _ _ _ _ _ _ _ _ _ _ _ _ _ _ _ _ _ _ _ _ _ _ _ _ _ _ _ _ _ _ _ _ _ _ _ _ _ _ _ _ _ _ _ _ _ _ _ _ _ _ _ _ _ _ _ _ _ _ _ _ _ _ _ _ _ _ _ _ _ _ _ _ _ _ _ _ _ _ _ _ _ _ _ _ _ _ HW5.out

set_option maxRecDepth 1000000 in
set_option maxHeartbeats 16000000 in
theorem node_wp2 {x0 x1 x2 x3 x4 x8 x9 x10 x11 x12 x13 x14 x15 x16 x17 x18 x19 x20 x21 x22 x23 x24 x25 x26 x27 x28 x29 x30 x31 x32 x33 x34 x35 x36 x37 x38 x39 x40 x42 x43 x44 x45 x46 x47 x48 x49 x50 x51 x52 x53 x54 x55 x56 x57 x58 x59 x60 x61 x62 x63 x64 x65 x66 x67 x68 x69 x70 x71 x72 x73 x74 x75 x76 x77 x78 x79 x80 x81 x82 x83 x84 x85 x86 x87 x88 x89 x90 x91 x92 x93 x94 x95 x96 x97 x98 x99 x100 x101 x102 x103 x104 x105 x106 x107 x108 x109 x110 x111 x112 x113 x114 x115 x116 x117 x118 x119 x120 x121 x122 x123 x124 x125 x126 x127 x128 x129 x130 x131 x132 x133 x134 x135 x136 x137 x138 x139 x140 x141 x142 x143 x144 x145 x146 x147 x148 x149 x150 x151 x152 x153 x154 x155 x156 x157 x158 x159 x160 x161 x162 x163 x164 x165 x166 x167 x168 x169 x170 x171 x172 x173 x174 x175 x176 : Value} {K : Act → World → Prop} {Q' : Exit → Act → World → Prop} {b5 b6 : Nat} {b41 : Bool} {wx : World} {S : Nat → Prop} {nm sa : ByteArray} {ix : Int} {ty : Ty} {l : List Tm} {A Aa : Option Addr} {c na ca d bd : Nat}
    (h41 : b41 = false) (hnm : nm.size ≤ maxLen) (hty : Ty.In wx S ty (.string sa) (.slice Aa na ca)) (hS : ∀ b, S b → b < wx.heap.size) (hm : l.length ≤ 9223372036854775807) (hbd : bd ≤ 1000)
    (px : wx.heap[b5]? = some (.cells #[.int .i64 2, .string nm, .int .i64 ix, .string sa, .slice Aa na ca, .slice A l.length c, .int .i64 d, .int .i64 bd] 81 (0, 0)))
    (pu : wx.heap[b6]? = some (.cells #[.int .i64 2, .string nm, .int .i64 ix, .string sa, .slice Aa na ca, .slice A l.length c] 49 (0, 0)))
    (hK : ∀ (y8 y9 y42 y43 y44 y45 y46 y47 y48 y49 y50 y51 y52 y53 y54 y55 y56 y57 y58 y59 y60 y61 y62 y63 y64 y65 y66 y67 y68 y69 y70 y71 y72 y73 y74 y75 y76 y77 y78 y79 y80 y81 y82 y83 y84 y85 y86 y87 y88 y89 y90 y91 y92 y93 y94 y95 y96 y97 y98 y99 y100 y101 y102 y103 y104 y105 y106 y107 y108 y109 y110 y111 y112 y113 y114 y115 y116 y117 y118 y119 y120 y121 y122 y123 y124 y125 y126 y127 y128 y129 y130 y131 y132 y133 y134 : Value) (wy : World), Below wx.heap.size wx wy → K ⟨#[x0, x1, x2, x3, x4, .pointer (some ⟨b5, 0, none⟩), .pointer (some ⟨b6, 0, none⟩), .int .i64 ((TmL.code ⟨2, nm, ix, ty⟩ l.length bd : Nat) : Int), y8, y9, x10, x11, x12, x13, x14, x15, x16, x17, x18, x19, x20, x21, x22, x23, x24, x25, x26, x27, x28, x29, x30, x31, x32, x33, x34, x35, x36, x37, x38, x39, x40, .bool b41, y42, y43, y44, y45, y46, y47, y48, y49, y50, y51, y52, y53, y54, y55, y56, y57, y58, y59, y60, y61, y62, y63, y64, y65, y66, y67, y68, y69, y70, y71, y72, y73, y74, y75, y76, y77, y78, y79, y80, y81, y82, y83, y84, y85, y86, y87, y88, y89, y90, y91, y92, y93, y94, y95, y96, y97, y98, y99, y100, y101, y102, y103, y104, y105, y106, y107, y108, y109, y110, y111, y112, y113, y114, y115, y116, y117, y118, y119, y120, y121, y122, y123, y124, y125, y126, y127, y128, y129, y130, y131, y132, y133, y134, x135, x136, x137, x138, x139, x140, x141, x142, x143, x144, x145, x146, x147, x148, x149, x150, x151, x152, x153, x154, x155, x156, x157, x158, x159, x160, x161, x162, x163, x164, x165, x166, x167, x168, x169, x170, x171, x172, x173, x174, x175, x176], []⟩ wy) :
    Code.wp Tryd.prog nodeIf (Exit.then K Q') ⟨#[x0, x1, x2, x3, x4, .pointer (some ⟨b5, 0, none⟩), .pointer (some ⟨b6, 0, none⟩), .int .i64 0, x8, x9, x10, x11, x12, x13, x14, x15, x16, x17, x18, x19, x20, x21, x22, x23, x24, x25, x26, x27, x28, x29, x30, x31, x32, x33, x34, x35, x36, x37, x38, x39, x40, .bool b41, x42, x43, x44, x45, x46, x47, x48, x49, x50, x51, x52, x53, x54, x55, x56, x57, x58, x59, x60, x61, x62, x63, x64, x65, x66, x67, x68, x69, x70, x71, x72, x73, x74, x75, x76, x77, x78, x79, x80, x81, x82, x83, x84, x85, x86, x87, x88, x89, x90, x91, x92, x93, x94, x95, x96, x97, x98, x99, x100, x101, x102, x103, x104, x105, x106, x107, x108, x109, x110, x111, x112, x113, x114, x115, x116, x117, x118, x119, x120, x121, x122, x123, x124, x125, x126, x127, x128, x129, x130, x131, x132, x133, x134, x135, x136, x137, x138, x139, x140, x141, x142, x143, x144, x145, x146, x147, x148, x149, x150, x151, x152, x153, x154, x155, x156, x157, x158, x159, x160, x161, x162, x163, x164, x165, x166, x167, x168, x169, x170, x171, x172, x173, x174, x175, x176], []⟩ wx := by
  subst h41
  have q3 : (0 : Int) ≤ (l.length : Int) := by omega
  have hbl := fun (o : Obj) => refBlank_any ty _ _ (wx.alloc o) S (hty.keep (fun k hk => heap_old (hS k hk) rfl))
  have hna := fun (o : Obj) => refName_any nm (wx.alloc o) hnm
  have hfa := fun (o : Obj) => refFault_any ty _ _ (wx.alloc o) S (hty.keep (fun k hk => heap_old (hS k hk) rfl)) (fun k hk => by have := hS k hk; simp; omega)
  have hba : ∀ o, Below wx.heap.size wx (wx.alloc o) := fun o => (Below.refl _ _).alloc (Nat.le_refl _) _
  have t0 := empty_nil
  clear hnm hty hS
  have HBL := Lib.hid hbl
  have HNA := Lib.hid hna
  have HFA := Lib.hid hfa
  have HBA := Lib.hid hba
  have HK := Lib.hid hK
  clear hbl hna hfa hba hK
  have px_0 := cv0 px
  have px_1 := cv1 px
  have px_2 := cv2 px
  have px_3 := cv3 px
  have px_4 := cv4 px
  have px_5 := cv5 px
  have px_6 := cv6 px
  have px_7 := cv7 px
  have px_l := lt_heap px
  have PX := Lib.hid px
  clear px
  have pu_0 := cv0 pu
  have pu_1 := cv1 pu
  have pu_2 := cv2 pu
  have pu_3 := cv3 pu
  have pu_4 := cv4 pu
  have pu_5 := cv5 pu
  have pu_l := lt_heap pu
  have PU := Lib.hid pu
  clear pu
  conv => arg 2; whnf
  by_cases g1 : l.length = 0
  case neg =>
    have t1 : ((l.length : Int) == 0) = false := beq_eq_false_iff_ne.2 (by omega)
    have HC := Lib.hid (show TmL.code ⟨2, nm, ix, ty⟩ l.length bd = 5 from by simp [TmL.code, g1])
    have HKX := HK
    clear g1
    go_wp2_with fail
    simp only [HC.out] at HKX
    exact HKX.out _ _ _ _ _ _ _ _ _ _ _ _ _ _ _ _ _ _ _ _ _ _ _ _ _ _ _ _ _ _ _ _ _ _ _ _ _ _ _ _ _ _ _ _ _ _ _ _ _ _ _ _ _ _ _ _ _ _ _ _ _ _ _ _ _ _ _ _ _ _ _ _ _ _ _ _ _ _ _ _ _ _ _ _ _ _ _ _ _ _ _ _ _ _ _ _ (HBA.out _)
  have t1 : ((l.length : Int) == 0) = true := by rw [g1]; rfl
  by_cases g3 : nm = bNil
  case neg =>
    have t3 := nonempty_of g3
    have HC := Lib.hid (show TmL.code ⟨2, nm, ix, ty⟩ l.length bd = 5 from by simp [TmL.code, g3])
    have HKX := HK
    clear g3
    go_wp2_with fail
    simp only [HC.out] at HKX
    exact HKX.out _ _ _ _ _ _ _ _ _ _ _ _ _ _ _ _ _ _ _ _ _ _ _ _ _ _ _ _ _ _ _ _ _ _ _ _ _ _ _ _ _ _ _ _ _ _ _ _ _ _ _ _ _ _ _ _ _ _ _ _ _ _ _ _ _ _ _ _ _ _ _ _ _ _ _ _ _ _ _ _ _ _ _ _ _ _ _ _ _ _ _ _ _ _ _ _ (HBA.out _)
  have t3 : nm.toList.isEmpty = true := by rw [g3]; exact empty_nil
  cases g4 : ty.blank with
  | false =>
    have HC := Lib.hid (show TmL.code ⟨2, nm, ix, ty⟩ l.length bd = 5 from by simp [TmL.code, g4])
    have HKX := HK
    have G4 := Lib.hid g4
    clear g4
    go_wp2_with fail
    (with_reducible refine (HBL.out _).mono ?_)
    rw [G4.out]
    rintro e w5 ⟨rfl, hw5⟩
    have HW5 := Lib.hid ((HBA.out _).trans (hw5.mono (by simp)))
    clear hw5
    have pu5 := (HW5.out.block _ pu_l).trans PU.out
    have px5 := (HW5.out.block _ px_l).trans PX.out
    have z6 := HW5.out.size
    clear pu_0 pu_1 pu_2 pu_3 pu_4 pu_5 px_0 px_1 px_2 px_3 px_4 px_5 px_6 px_7
    have pu5_0 := cv0 pu5
    have pu5_1 := cv1 pu5
    have pu5_2 := cv2 pu5
    have pu5_3 := cv3 pu5
    have pu5_4 := cv4 pu5
    have pu5_5 := cv5 pu5
    have pu5_l := lt_heap pu5
    have PU5 := Lib.hid pu5
    clear pu5
    have px5_0 := cv0 px5
    have px5_1 := cv1 px5
    have px5_2 := cv2 px5
    have px5_3 := cv3 px5
    have px5_4 := cv4 px5
    have px5_5 := cv5 px5
    have px5_6 := cv6 px5
    have px5_7 := cv7 px5
    have px5_l := lt_heap px5
    have PX5 := Lib.hid px5
    clear px5
    go_wp2_with fail
    simp only [HC.out] at HKX
    exact HKX.out _ _ _ _ _ _ _ _ _ _ _ _ _ _ _ _ _ _ _ _ _ _ _ _ _ _ _ _ _ _ _ _ _ _ _ _ _ _ _ _ _ _ _ _ _ _ _ _ _ _ _ _ _ _ _ _ _ _ _ _ _ _ _ _ _ _ _ _ _ _ _ _ _ _ _ _ _ _ _ _ _ _ _ _ _ _ _ _ _ _ _ _ _ _ _ _ HW5.out
  | true =>
    have G4 := Lib.hid g4
    by_cases g5 : ix < 0
    case pos =>
      have HC := Lib.hid (show TmL.code ⟨2, nm, ix, ty⟩ l.length bd = 15 from by simp [TmL.code, g1, g3, g4, g5])
      have HKX := HK
      clear g4
      go_wp2_with fail
      (with_reducible refine (HBL.out _).mono ?_)
      rw [G4.out]
      rintro e w5 ⟨rfl, hw5⟩
      have HW5 := Lib.hid ((HBA.out _).trans (hw5.mono (by simp)))
      clear hw5
      have pu5 := (HW5.out.block _ pu_l).trans PU.out
      have px5 := (HW5.out.block _ px_l).trans PX.out
      have z6 := HW5.out.size
      clear pu_0 pu_1 pu_2 pu_3 pu_4 pu_5 px_0 px_1 px_2 px_3 px_4 px_5 px_6 px_7
      have pu5_0 := cv0 pu5
      have pu5_1 := cv1 pu5
      have pu5_2 := cv2 pu5
      have pu5_3 := cv3 pu5
      have pu5_4 := cv4 pu5
      have pu5_5 := cv5 pu5
      have pu5_l := lt_heap pu5
      have PU5 := Lib.hid pu5
      clear pu5
      have px5_0 := cv0 px5
      have px5_1 := cv1 px5
      have px5_2 := cv2 px5
      have px5_3 := cv3 px5
      have px5_4 := cv4 px5
      have px5_5 := cv5 px5
      have px5_6 := cv6 px5
      have px5_7 := cv7 px5
      have px5_l := lt_heap px5
      have PX5 := Lib.hid px5
      clear px5
      go_wp2_with fail
      simp only [HC.out] at HKX
      exact HKX.out _ _ _ _ _ _ _ _ _ _ _ _ _ _ _ _ _ _ _ _ _ _ _ _ _ _ _ _ _ _ _ _ _ _ _ _ _ _ _ _ _ _ _ _ _ _ _ _ _ _ _ _ _ _ _ _ _ _ _ _ _ _ _ _ _ _ _ _ _ _ _ _ _ _ _ _ _ _ _ _ _ _ _ _ _ _ _ _ _ _ _ _ _ _ _ _ HW5.out
    by_cases g6 : (bd : Int) ≤ ix
    case pos =>
      have HC := Lib.hid (show TmL.code ⟨2, nm, ix, ty⟩ l.length bd = 15 from by simp [TmL.code, g1, g3, g4, g6])
      have HKX := HK
      clear g4
      go_wp2_with fail
      (with_reducible refine (HBL.out _).mono ?_)
      rw [G4.out]
      rintro e w5 ⟨rfl, hw5⟩
      have HW5 := Lib.hid ((HBA.out _).trans (hw5.mono (by simp)))
      clear hw5
      have pu5 := (HW5.out.block _ pu_l).trans PU.out
      have px5 := (HW5.out.block _ px_l).trans PX.out
      have z6 := HW5.out.size
      clear pu_0 pu_1 pu_2 pu_3 pu_4 pu_5 px_0 px_1 px_2 px_3 px_4 px_5 px_6 px_7
      have pu5_0 := cv0 pu5
      have pu5_1 := cv1 pu5
      have pu5_2 := cv2 pu5
      have pu5_3 := cv3 pu5
      have pu5_4 := cv4 pu5
      have pu5_5 := cv5 pu5
      have pu5_l := lt_heap pu5
      have PU5 := Lib.hid pu5
      clear pu5
      have px5_0 := cv0 px5
      have px5_1 := cv1 px5
      have px5_2 := cv2 px5
      have px5_3 := cv3 px5
      have px5_4 := cv4 px5
      have px5_5 := cv5 px5
      have px5_6 := cv6 px5
      have px5_7 := cv7 px5
      have px5_l := lt_heap px5
      have PX5 := Lib.hid px5
      clear px5
      go_wp2_with fail
      simp only [HC.out] at HKX
      exact HKX.out _ _ _ _ _ _ _ _ _ _ _ _ _ _ _ _ _ _ _ _ _ _ _ _ _ _ _ _ _ _ _ _ _ _ _ _ _ _ _ _ _ _ _ _ _ _ _ _ _ _ _ _ _ _ _ _ _ _ _ _ _ _ _ _ _ _ _ _ _ _ _ _ _ _ _ _ _ _ _ _ _ _ _ _ _ _ _ _ _ _ _ _ _ _ _ _ HW5.out
    have HC := Lib.hid (show TmL.code ⟨2, nm, ix, ty⟩ l.length bd = 0 from by simp [TmL.code, g1, g3, g4, g5, g6] <;> omega)
    have HKX := HK
    clear g4
    go_wp2_with fail
    (with_reducible refine (HBL.out _).mono ?_)
    rw [G4.out]
    rintro e w5 ⟨rfl, hw5⟩
    have HW5 := Lib.hid ((HBA.out _).trans (hw5.mono (by simp)))
    clear hw5
    have pu5 := (HW5.out.block _ pu_l).trans PU.out
    have px5 := (HW5.out.block _ px_l).trans PX.out
    have z6 := HW5.out.size
    clear pu_0 pu_1 pu_2 pu_3 pu_4 pu_5 px_0 px_1 px_2 px_3 px_4 px_5 px_6 px_7
    have pu5_0 := cv0 pu5
    have pu5_1 := cv1 pu5
    have pu5_2 := cv2 pu5
    have pu5_3 := cv3 pu5
    have pu5_4 := cv4 pu5
    have pu5_5 := cv5 pu5
    have pu5_l := lt_heap pu5
    have PU5 := Lib.hid pu5
    clear pu5
    have px5_0 := cv0 px5
    have px5_1 := cv1 px5
    have px5_2 := cv2 px5
    have px5_3 := cv3 px5
    have px5_4 := cv4 px5
    have px5_5 := cv5 px5
    have px5_6 := cv6 px5
    have px5_7 := cv7 px5
    have px5_l := lt_heap px5
    have PX5 := Lib.hid px5
    clear px5
    go_wp2_with fail
    simp only [HC.out] at HKX
    exact HKX.out _ _ _ _ _ _ _ _ _ _ _ _ _ _ _ _ _ _ _ _ _ _ _ _ _ _ _ _ _ _ _ _ _ _ _ _ _ _ _ _ _ _ _ _ _ _ _ _ _ _ _ _ _ _ _ _ _ _ _ _ _ _ _ _ _ _ _ _ _ _ _ _ _ _ _ _ _ _ _ _ _ _ _ _ _ _ _ _ _ _ _ _ _ _ _ _ HW5.out

set_option maxRecDepth 1000000 in
set_option maxHeartbeats 16000000 in
theorem node_wp3 {x0 x1 x2 x3 x4 x8 x9 x10 x11 x12 x13 x14 x15 x16 x17 x18 x19 x20 x21 x22 x23 x24 x25 x26 x27 x28 x29 x30 x31 x32 x33 x34 x35 x36 x37 x38 x39 x40 x42 x43 x44 x45 x46 x47 x48 x49 x50 x51 x52 x53 x54 x55 x56 x57 x58 x59 x60 x61 x62 x63 x64 x65 x66 x67 x68 x69 x70 x71 x72 x73 x74 x75 x76 x77 x78 x79 x80 x81 x82 x83 x84 x85 x86 x87 x88 x89 x90 x91 x92 x93 x94 x95 x96 x97 x98 x99 x100 x101 x102 x103 x104 x105 x106 x107 x108 x109 x110 x111 x112 x113 x114 x115 x116 x117 x118 x119 x120 x121 x122 x123 x124 x125 x126 x127 x128 x129 x130 x131 x132 x133 x134 x135 x136 x137 x138 x139 x140 x141 x142 x143 x144 x145 x146 x147 x148 x149 x150 x151 x152 x153 x154 x155 x156 x157 x158 x159 x160 x161 x162 x163 x164 x165 x166 x167 x168 x169 x170 x171 x172 x173 x174 x175 x176 : Value} {K : Act → World → Prop} {Q' : Exit → Act → World → Prop} {b5 b6 : Nat} {b41 : Bool} {wx : World} {S : Nat → Prop} {nm sa : ByteArray} {ix : Int} {ty : Ty} {l : List Tm} {A Aa : Option Addr} {c na ca d bd : Nat}
    (h41 : b41 = false) (hnm : nm.size ≤ maxLen) (hty : Ty.In wx S ty (.string sa) (.slice Aa na ca)) (hS : ∀ b, S b → b < wx.heap.size) (hm : l.length ≤ 9223372036854775807) (hbd : bd ≤ 1000)
    (px : wx.heap[b5]? = some (.cells #[.int .i64 3, .string nm, .int .i64 ix, .string sa, .slice Aa na ca, .slice A l.length c, .int .i64 d, .int .i64 bd] 81 (0, 0)))
    (pu : wx.heap[b6]? = some (.cells #[.int .i64 3, .string nm, .int .i64 ix, .string sa, .slice Aa na ca, .slice A l.length c] 49 (0, 0)))
    (hK : ∀ (y8 y9 y42 y43 y44 y45 y46 y47 y48 y49 y50 y51 y52 y53 y54 y55 y56 y57 y58 y59 y60 y61 y62 y63 y64 y65 y66 y67 y68 y69 y70 y71 y72 y73 y74 y75 y76 y77 y78 y79 y80 y81 y82 y83 y84 y85 y86 y87 y88 y89 y90 y91 y92 y93 y94 y95 y96 y97 y98 y99 y100 y101 y102 y103 y104 y105 y106 y107 y108 y109 y110 y111 y112 y113 y114 y115 y116 y117 y118 y119 y120 y121 y122 y123 y124 y125 y126 y127 y128 y129 y130 y131 y132 y133 y134 : Value) (wy : World), Below wx.heap.size wx wy → K ⟨#[x0, x1, x2, x3, x4, .pointer (some ⟨b5, 0, none⟩), .pointer (some ⟨b6, 0, none⟩), .int .i64 ((TmL.code ⟨3, nm, ix, ty⟩ l.length bd : Nat) : Int), y8, y9, x10, x11, x12, x13, x14, x15, x16, x17, x18, x19, x20, x21, x22, x23, x24, x25, x26, x27, x28, x29, x30, x31, x32, x33, x34, x35, x36, x37, x38, x39, x40, .bool b41, y42, y43, y44, y45, y46, y47, y48, y49, y50, y51, y52, y53, y54, y55, y56, y57, y58, y59, y60, y61, y62, y63, y64, y65, y66, y67, y68, y69, y70, y71, y72, y73, y74, y75, y76, y77, y78, y79, y80, y81, y82, y83, y84, y85, y86, y87, y88, y89, y90, y91, y92, y93, y94, y95, y96, y97, y98, y99, y100, y101, y102, y103, y104, y105, y106, y107, y108, y109, y110, y111, y112, y113, y114, y115, y116, y117, y118, y119, y120, y121, y122, y123, y124, y125, y126, y127, y128, y129, y130, y131, y132, y133, y134, x135, x136, x137, x138, x139, x140, x141, x142, x143, x144, x145, x146, x147, x148, x149, x150, x151, x152, x153, x154, x155, x156, x157, x158, x159, x160, x161, x162, x163, x164, x165, x166, x167, x168, x169, x170, x171, x172, x173, x174, x175, x176], []⟩ wy) :
    Code.wp Tryd.prog nodeIf (Exit.then K Q') ⟨#[x0, x1, x2, x3, x4, .pointer (some ⟨b5, 0, none⟩), .pointer (some ⟨b6, 0, none⟩), .int .i64 0, x8, x9, x10, x11, x12, x13, x14, x15, x16, x17, x18, x19, x20, x21, x22, x23, x24, x25, x26, x27, x28, x29, x30, x31, x32, x33, x34, x35, x36, x37, x38, x39, x40, .bool b41, x42, x43, x44, x45, x46, x47, x48, x49, x50, x51, x52, x53, x54, x55, x56, x57, x58, x59, x60, x61, x62, x63, x64, x65, x66, x67, x68, x69, x70, x71, x72, x73, x74, x75, x76, x77, x78, x79, x80, x81, x82, x83, x84, x85, x86, x87, x88, x89, x90, x91, x92, x93, x94, x95, x96, x97, x98, x99, x100, x101, x102, x103, x104, x105, x106, x107, x108, x109, x110, x111, x112, x113, x114, x115, x116, x117, x118, x119, x120, x121, x122, x123, x124, x125, x126, x127, x128, x129, x130, x131, x132, x133, x134, x135, x136, x137, x138, x139, x140, x141, x142, x143, x144, x145, x146, x147, x148, x149, x150, x151, x152, x153, x154, x155, x156, x157, x158, x159, x160, x161, x162, x163, x164, x165, x166, x167, x168, x169, x170, x171, x172, x173, x174, x175, x176], []⟩ wx := by
  subst h41
  have q3 : (0 : Int) ≤ (l.length : Int) := by omega
  have hbl := fun (o : Obj) => refBlank_any ty _ _ (wx.alloc o) S (hty.keep (fun k hk => heap_old (hS k hk) rfl))
  have hna := fun (o : Obj) => refName_any nm (wx.alloc o) hnm
  have hfa := fun (o : Obj) => refFault_any ty _ _ (wx.alloc o) S (hty.keep (fun k hk => heap_old (hS k hk) rfl)) (fun k hk => by have := hS k hk; simp; omega)
  have hba : ∀ o, Below wx.heap.size wx (wx.alloc o) := fun o => (Below.refl _ _).alloc (Nat.le_refl _) _
  have t0 := empty_nil
  clear hnm hty hS
  have HBL := Lib.hid hbl
  have HNA := Lib.hid hna
  have HFA := Lib.hid hfa
  have HBA := Lib.hid hba
  have HK := Lib.hid hK
  clear hbl hna hfa hba hK
  have px_0 := cv0 px
  have px_1 := cv1 px
  have px_2 := cv2 px
  have px_3 := cv3 px
  have px_4 := cv4 px
  have px_5 := cv5 px
  have px_6 := cv6 px
  have px_7 := cv7 px
  have px_l := lt_heap px
  have PX := Lib.hid px
  clear px
  have pu_0 := cv0 pu
  have pu_1 := cv1 pu
  have pu_2 := cv2 pu
  have pu_3 := cv3 pu
  have pu_4 := cv4 pu
  have pu_5 := cv5 pu
  have pu_l := lt_heap pu
  have PU := Lib.hid pu
  clear pu
  conv => arg 2; whnf
  by_cases g1 : l.length = 1
  case neg =>
    have t1 : ((l.length : Int) == 1) = false := beq_eq_false_iff_ne.2 (by omega)
    have HC := Lib.hid (show TmL.code ⟨3, nm, ix, ty⟩ l.length bd = 5 from by simp [TmL.code, g1])
    have HKX := HK
    clear g1
    go_wp2_with fail
    simp only [HC.out] at HKX
    exact HKX.out _ _ _ _ _ _ _ _ _ _ _ _ _ _ _ _ _ _ _ _ _ _ _ _ _ _ _ _ _ _ _ _ _ _ _ _ _ _ _ _ _ _ _ _ _ _ _ _ _ _ _ _ _ _ _ _ _ _ _ _ _ _ _ _ _ _ _ _ _ _ _ _ _ _ _ _ _ _ _ _ _ _ _ _ _ _ _ _ _ _ _ _ _ _ _ _ (HBA.out _)
  have t1 : ((l.length : Int) == 1) = true := by rw [g1]; rfl
  by_cases g3 : nm = bNil
  case neg =>
    have t3 := nonempty_of g3
    have HC := Lib.hid (show TmL.code ⟨3, nm, ix, ty⟩ l.length bd = 5 from by simp [TmL.code, g3])
    have HKX := HK
    clear g3
    go_wp2_with fail
    simp only [HC.out] at HKX
    exact HKX.out _ _ _ _ _ _ _ _ _ _ _ _ _ _ _ _ _ _ _ _ _ _ _ _ _ _ _ _ _ _ _ _ _ _ _ _ _ _ _ _ _ _ _ _ _ _ _ _ _ _ _ _ _ _ _ _ _ _ _ _ _ _ _ _ _ _ _ _ _ _ _ _ _ _ _ _ _ _ _ _ _ _ _ _ _ _ _ _ _ _ _ _ _ _ _ _ (HBA.out _)
  have t3 : nm.toList.isEmpty = true := by rw [g3]; exact empty_nil
  by_cases g2 : ix = 0
  case neg =>
    have t2 : (ix == 0) = false := beq_eq_false_iff_ne.2 g2
    have HC := Lib.hid (show TmL.code ⟨3, nm, ix, ty⟩ l.length bd = 5 from by simp [TmL.code, g2])
    have HKX := HK
    clear g2
    go_wp2_with fail
    simp only [HC.out] at HKX
    exact HKX.out _ _ _ _ _ _ _ _ _ _ _ _ _ _ _ _ _ _ _ _ _ _ _ _ _ _ _ _ _ _ _ _ _ _ _ _ _ _ _ _ _ _ _ _ _ _ _ _ _ _ _ _ _ _ _ _ _ _ _ _ _ _ _ _ _ _ _ _ _ _ _ _ _ _ _ _ _ _ _ _ _ _ _ _ _ _ _ _ _ _ _ _ _ _ _ _ (HBA.out _)
  have t2 : (ix == 0) = true := by rw [g2]; rfl
  by_cases g5 : ty.fault = 0
  case neg =>
    have HC := Lib.hid (show TmL.code ⟨3, nm, ix, ty⟩ l.length bd = 12 from by simp [TmL.code, g1, g2, g3, g5])
    have HKX := HK
    have t5 : ((ty.fault : Int) != 0) = true := bne_iff_ne.2 (by omega)
    go_wp2_with fail
    (with_reducible refine (HFA.out _).mono ?_)
    rintro e w5 ⟨rfl, hw5⟩
    have HW5 := Lib.hid ((HBA.out _).trans (hw5.mono (by simp)))
    clear hw5
    have pu5 := (HW5.out.block _ pu_l).trans PU.out
    have px5 := (HW5.out.block _ px_l).trans PX.out
    have z6 := HW5.out.size
    clear pu_0 pu_1 pu_2 pu_3 pu_4 pu_5 px_0 px_1 px_2 px_3 px_4 px_5 px_6 px_7
    have pu5_0 := cv0 pu5
    have pu5_1 := cv1 pu5
    have pu5_2 := cv2 pu5
    have pu5_3 := cv3 pu5
    have pu5_4 := cv4 pu5
    have pu5_5 := cv5 pu5
    have pu5_l := lt_heap pu5
    have PU5 := Lib.hid pu5
    clear pu5
    have px5_0 := cv0 px5
    have px5_1 := cv1 px5
    have px5_2 := cv2 px5
    have px5_3 := cv3 px5
    have px5_4 := cv4 px5
    have px5_5 := cv5 px5
    have px5_6 := cv6 px5
    have px5_7 := cv7 px5
    have px5_l := lt_heap px5
    have PX5 := Lib.hid px5
    clear px5
    go_wp2_with fail
    simp only [HC.out] at HKX
    exact HKX.out _ _ _ _ _ _ _ _ _ _ _ _ _ _ _ _ _ _ _ _ _ _ _ _ _ _ _ _ _ _ _ _ _ _ _ _ _ _ _ _ _ _ _ _ _ _ _ _ _ _ _ _ _ _ _ _ _ _ _ _ _ _ _ _ _ _ _ _ _ _ _ _ _ _ _ _ _ _ _ _ _ _ _ _ _ _ _ _ _ _ _ _ _ _ _ _ HW5.out
  have HC := Lib.hid (show TmL.code ⟨3, nm, ix, ty⟩ l.length bd = 0 from by simp [TmL.code, g1, g2, g3, g5])
  have HKX := HK
  have t5 : ((ty.fault : Int) != 0) = false := by rw [g5]; rfl
  go_wp2_with fail
  (with_reducible refine (HFA.out _).mono ?_)
  rintro e w5 ⟨rfl, hw5⟩
  have HW5 := Lib.hid ((HBA.out _).trans (hw5.mono (by simp)))
  clear hw5
  have pu5 := (HW5.out.block _ pu_l).trans PU.out
  have px5 := (HW5.out.block _ px_l).trans PX.out
  have z6 := HW5.out.size
  clear pu_0 pu_1 pu_2 pu_3 pu_4 pu_5 px_0 px_1 px_2 px_3 px_4 px_5 px_6 px_7
  have pu5_0 := cv0 pu5
  have pu5_1 := cv1 pu5
  have pu5_2 := cv2 pu5
  have pu5_3 := cv3 pu5
  have pu5_4 := cv4 pu5
  have pu5_5 := cv5 pu5
  have pu5_l := lt_heap pu5
  have PU5 := Lib.hid pu5
  clear pu5
  have px5_0 := cv0 px5
  have px5_1 := cv1 px5
  have px5_2 := cv2 px5
  have px5_3 := cv3 px5
  have px5_4 := cv4 px5
  have px5_5 := cv5 px5
  have px5_6 := cv6 px5
  have px5_7 := cv7 px5
  have px5_l := lt_heap px5
  have PX5 := Lib.hid px5
  clear px5
  go_wp2_with fail
  simp only [HC.out] at HKX
  exact HKX.out _ _ _ _ _ _ _ _ _ _ _ _ _ _ _ _ _ _ _ _ _ _ _ _ _ _ _ _ _ _ _ _ _ _ _ _ _ _ _ _ _ _ _ _ _ _ _ _ _ _ _ _ _ _ _ _ _ _ _ _ _ _ _ _ _ _ _ _ _ _ _ _ _ _ _ _ _ _ _ _ _ _ _ _ _ _ _ _ _ _ _ _ _ _ _ _ HW5.out

set_option maxRecDepth 1000000 in
set_option maxHeartbeats 16000000 in
theorem node_wp4 {x0 x1 x2 x3 x4 x8 x9 x10 x11 x12 x13 x14 x15 x16 x17 x18 x19 x20 x21 x22 x23 x24 x25 x26 x27 x28 x29 x30 x31 x32 x33 x34 x35 x36 x37 x38 x39 x40 x42 x43 x44 x45 x46 x47 x48 x49 x50 x51 x52 x53 x54 x55 x56 x57 x58 x59 x60 x61 x62 x63 x64 x65 x66 x67 x68 x69 x70 x71 x72 x73 x74 x75 x76 x77 x78 x79 x80 x81 x82 x83 x84 x85 x86 x87 x88 x89 x90 x91 x92 x93 x94 x95 x96 x97 x98 x99 x100 x101 x102 x103 x104 x105 x106 x107 x108 x109 x110 x111 x112 x113 x114 x115 x116 x117 x118 x119 x120 x121 x122 x123 x124 x125 x126 x127 x128 x129 x130 x131 x132 x133 x134 x135 x136 x137 x138 x139 x140 x141 x142 x143 x144 x145 x146 x147 x148 x149 x150 x151 x152 x153 x154 x155 x156 x157 x158 x159 x160 x161 x162 x163 x164 x165 x166 x167 x168 x169 x170 x171 x172 x173 x174 x175 x176 : Value} {K : Act → World → Prop} {Q' : Exit → Act → World → Prop} {b5 b6 : Nat} {b41 : Bool} {wx : World} {S : Nat → Prop} {nm sa : ByteArray} {ix : Int} {ty : Ty} {l : List Tm} {A Aa : Option Addr} {c na ca d bd : Nat}
    (h41 : b41 = false) (hnm : nm.size ≤ maxLen) (hty : Ty.In wx S ty (.string sa) (.slice Aa na ca)) (hS : ∀ b, S b → b < wx.heap.size) (hm : l.length ≤ 9223372036854775807) (hbd : bd ≤ 1000)
    (px : wx.heap[b5]? = some (.cells #[.int .i64 4, .string nm, .int .i64 ix, .string sa, .slice Aa na ca, .slice A l.length c, .int .i64 d, .int .i64 bd] 81 (0, 0)))
    (pu : wx.heap[b6]? = some (.cells #[.int .i64 4, .string nm, .int .i64 ix, .string sa, .slice Aa na ca, .slice A l.length c] 49 (0, 0)))
    (hK : ∀ (y8 y9 y42 y43 y44 y45 y46 y47 y48 y49 y50 y51 y52 y53 y54 y55 y56 y57 y58 y59 y60 y61 y62 y63 y64 y65 y66 y67 y68 y69 y70 y71 y72 y73 y74 y75 y76 y77 y78 y79 y80 y81 y82 y83 y84 y85 y86 y87 y88 y89 y90 y91 y92 y93 y94 y95 y96 y97 y98 y99 y100 y101 y102 y103 y104 y105 y106 y107 y108 y109 y110 y111 y112 y113 y114 y115 y116 y117 y118 y119 y120 y121 y122 y123 y124 y125 y126 y127 y128 y129 y130 y131 y132 y133 y134 : Value) (wy : World), Below wx.heap.size wx wy → K ⟨#[x0, x1, x2, x3, x4, .pointer (some ⟨b5, 0, none⟩), .pointer (some ⟨b6, 0, none⟩), .int .i64 ((TmL.code ⟨4, nm, ix, ty⟩ l.length bd : Nat) : Int), y8, y9, x10, x11, x12, x13, x14, x15, x16, x17, x18, x19, x20, x21, x22, x23, x24, x25, x26, x27, x28, x29, x30, x31, x32, x33, x34, x35, x36, x37, x38, x39, x40, .bool b41, y42, y43, y44, y45, y46, y47, y48, y49, y50, y51, y52, y53, y54, y55, y56, y57, y58, y59, y60, y61, y62, y63, y64, y65, y66, y67, y68, y69, y70, y71, y72, y73, y74, y75, y76, y77, y78, y79, y80, y81, y82, y83, y84, y85, y86, y87, y88, y89, y90, y91, y92, y93, y94, y95, y96, y97, y98, y99, y100, y101, y102, y103, y104, y105, y106, y107, y108, y109, y110, y111, y112, y113, y114, y115, y116, y117, y118, y119, y120, y121, y122, y123, y124, y125, y126, y127, y128, y129, y130, y131, y132, y133, y134, x135, x136, x137, x138, x139, x140, x141, x142, x143, x144, x145, x146, x147, x148, x149, x150, x151, x152, x153, x154, x155, x156, x157, x158, x159, x160, x161, x162, x163, x164, x165, x166, x167, x168, x169, x170, x171, x172, x173, x174, x175, x176], []⟩ wy) :
    Code.wp Tryd.prog nodeIf (Exit.then K Q') ⟨#[x0, x1, x2, x3, x4, .pointer (some ⟨b5, 0, none⟩), .pointer (some ⟨b6, 0, none⟩), .int .i64 0, x8, x9, x10, x11, x12, x13, x14, x15, x16, x17, x18, x19, x20, x21, x22, x23, x24, x25, x26, x27, x28, x29, x30, x31, x32, x33, x34, x35, x36, x37, x38, x39, x40, .bool b41, x42, x43, x44, x45, x46, x47, x48, x49, x50, x51, x52, x53, x54, x55, x56, x57, x58, x59, x60, x61, x62, x63, x64, x65, x66, x67, x68, x69, x70, x71, x72, x73, x74, x75, x76, x77, x78, x79, x80, x81, x82, x83, x84, x85, x86, x87, x88, x89, x90, x91, x92, x93, x94, x95, x96, x97, x98, x99, x100, x101, x102, x103, x104, x105, x106, x107, x108, x109, x110, x111, x112, x113, x114, x115, x116, x117, x118, x119, x120, x121, x122, x123, x124, x125, x126, x127, x128, x129, x130, x131, x132, x133, x134, x135, x136, x137, x138, x139, x140, x141, x142, x143, x144, x145, x146, x147, x148, x149, x150, x151, x152, x153, x154, x155, x156, x157, x158, x159, x160, x161, x162, x163, x164, x165, x166, x167, x168, x169, x170, x171, x172, x173, x174, x175, x176], []⟩ wx := by
  subst h41
  have q3 : (0 : Int) ≤ (l.length : Int) := by omega
  have hbl := fun (o : Obj) => refBlank_any ty _ _ (wx.alloc o) S (hty.keep (fun k hk => heap_old (hS k hk) rfl))
  have hna := fun (o : Obj) => refName_any nm (wx.alloc o) hnm
  have hfa := fun (o : Obj) => refFault_any ty _ _ (wx.alloc o) S (hty.keep (fun k hk => heap_old (hS k hk) rfl)) (fun k hk => by have := hS k hk; simp; omega)
  have hba : ∀ o, Below wx.heap.size wx (wx.alloc o) := fun o => (Below.refl _ _).alloc (Nat.le_refl _) _
  have t0 := empty_nil
  clear hnm hty hS
  have HBL := Lib.hid hbl
  have HNA := Lib.hid hna
  have HFA := Lib.hid hfa
  have HBA := Lib.hid hba
  have HK := Lib.hid hK
  clear hbl hna hfa hba hK
  have px_0 := cv0 px
  have px_1 := cv1 px
  have px_2 := cv2 px
  have px_3 := cv3 px
  have px_4 := cv4 px
  have px_5 := cv5 px
  have px_6 := cv6 px
  have px_7 := cv7 px
  have px_l := lt_heap px
  have PX := Lib.hid px
  clear px
  have pu_0 := cv0 pu
  have pu_1 := cv1 pu
  have pu_2 := cv2 pu
  have pu_3 := cv3 pu
  have pu_4 := cv4 pu
  have pu_5 := cv5 pu
  have pu_l := lt_heap pu
  have PU := Lib.hid pu
  clear pu
  conv => arg 2; whnf
  by_cases g1 : l.length = 2
  case neg =>
    have t1 : ((l.length : Int) == 2) = false := beq_eq_false_iff_ne.2 (by omega)
    have HC := Lib.hid (show TmL.code ⟨4, nm, ix, ty⟩ l.length bd = 5 from by simp [TmL.code, g1])
    have HKX := HK
    clear g1
    go_wp2_with fail
    simp only [HC.out] at HKX
    exact HKX.out _ _ _ _ _ _ _ _ _ _ _ _ _ _ _ _ _ _ _ _ _ _ _ _ _ _ _ _ _ _ _ _ _ _ _ _ _ _ _ _ _ _ _ _ _ _ _ _ _ _ _ _ _ _ _ _ _ _ _ _ _ _ _ _ _ _ _ _ _ _ _ _ _ _ _ _ _ _ _ _ _ _ _ _ _ _ _ _ _ _ _ _ _ _ _ _ (HBA.out _)
  have t1 : ((l.length : Int) == 2) = true := by rw [g1]; rfl
  by_cases g3 : nm = bNil
  case neg =>
    have t3 := nonempty_of g3
    have HC := Lib.hid (show TmL.code ⟨4, nm, ix, ty⟩ l.length bd = 5 from by simp [TmL.code, g3])
    have HKX := HK
    clear g3
    go_wp2_with fail
    simp only [HC.out] at HKX
    exact HKX.out _ _ _ _ _ _ _ _ _ _ _ _ _ _ _ _ _ _ _ _ _ _ _ _ _ _ _ _ _ _ _ _ _ _ _ _ _ _ _ _ _ _ _ _ _ _ _ _ _ _ _ _ _ _ _ _ _ _ _ _ _ _ _ _ _ _ _ _ _ _ _ _ _ _ _ _ _ _ _ _ _ _ _ _ _ _ _ _ _ _ _ _ _ _ _ _ (HBA.out _)
  have t3 : nm.toList.isEmpty = true := by rw [g3]; exact empty_nil
  by_cases g2 : ix = 0
  case neg =>
    have t2 : (ix == 0) = false := beq_eq_false_iff_ne.2 g2
    have HC := Lib.hid (show TmL.code ⟨4, nm, ix, ty⟩ l.length bd = 5 from by simp [TmL.code, g2])
    have HKX := HK
    clear g2
    go_wp2_with fail
    simp only [HC.out] at HKX
    exact HKX.out _ _ _ _ _ _ _ _ _ _ _ _ _ _ _ _ _ _ _ _ _ _ _ _ _ _ _ _ _ _ _ _ _ _ _ _ _ _ _ _ _ _ _ _ _ _ _ _ _ _ _ _ _ _ _ _ _ _ _ _ _ _ _ _ _ _ _ _ _ _ _ _ _ _ _ _ _ _ _ _ _ _ _ _ _ _ _ _ _ _ _ _ _ _ _ _ (HBA.out _)
  have t2 : (ix == 0) = true := by rw [g2]; rfl
  cases g4 : ty.blank with
  | false =>
    have HC := Lib.hid (show TmL.code ⟨4, nm, ix, ty⟩ l.length bd = 5 from by simp [TmL.code, g4])
    have HKX := HK
    have G4 := Lib.hid g4
    clear g4
    go_wp2_with fail
    (with_reducible refine (HBL.out _).mono ?_)
    rw [G4.out]
    rintro e w5 ⟨rfl, hw5⟩
    have HW5 := Lib.hid ((HBA.out _).trans (hw5.mono (by simp)))
    clear hw5
    have pu5 := (HW5.out.block _ pu_l).trans PU.out
    have px5 := (HW5.out.block _ px_l).trans PX.out
    have z6 := HW5.out.size
    clear pu_0 pu_1 pu_2 pu_3 pu_4 pu_5 px_0 px_1 px_2 px_3 px_4 px_5 px_6 px_7
    have pu5_0 := cv0 pu5
    have pu5_1 := cv1 pu5
    have pu5_2 := cv2 pu5
    have pu5_3 := cv3 pu5
    have pu5_4 := cv4 pu5
    have pu5_5 := cv5 pu5
    have pu5_l := lt_heap pu5
    have PU5 := Lib.hid pu5
    clear pu5
    have px5_0 := cv0 px5
    have px5_1 := cv1 px5
    have px5_2 := cv2 px5
    have px5_3 := cv3 px5
    have px5_4 := cv4 px5
    have px5_5 := cv5 px5
    have px5_6 := cv6 px5
    have px5_7 := cv7 px5
    have px5_l := lt_heap px5
    have PX5 := Lib.hid px5
    clear px5
    go_wp2_with fail
    simp only [HC.out] at HKX
    exact HKX.out _ _ _ _ _ _ _ _ _ _ _ _ _ _ _ _ _ _ _ _ _ _ _ _ _ _ _ _ _ _ _ _ _ _ _ _ _ _ _ _ _ _ _ _ _ _ _ _ _ _ _ _ _ _ _ _ _ _ _ _ _ _ _ _ _ _ _ _ _ _ _ _ _ _ _ _ _ _ _ _ _ _ _ _ _ _ _ _ _ _ _ _ _ _ _ _ HW5.out
  | true =>
    have G4 := Lib.hid g4
    have HC := Lib.hid (show TmL.code ⟨4, nm, ix, ty⟩ l.length bd = 0 from by simp [TmL.code, g1, g2, g3, g4])
    have HKX := HK
    clear g4
    go_wp2_with fail
    (with_reducible refine (HBL.out _).mono ?_)
    rw [G4.out]
    rintro e w5 ⟨rfl, hw5⟩
    have HW5 := Lib.hid ((HBA.out _).trans (hw5.mono (by simp)))
    clear hw5
    have pu5 := (HW5.out.block _ pu_l).trans PU.out
    have px5 := (HW5.out.block _ px_l).trans PX.out
    have z6 := HW5.out.size
    clear pu_0 pu_1 pu_2 pu_3 pu_4 pu_5 px_0 px_1 px_2 px_3 px_4 px_5 px_6 px_7
    have pu5_0 := cv0 pu5
    have pu5_1 := cv1 pu5
    have pu5_2 := cv2 pu5
    have pu5_3 := cv3 pu5
    have pu5_4 := cv4 pu5
    have pu5_5 := cv5 pu5
    have pu5_l := lt_heap pu5
    have PU5 := Lib.hid pu5
    clear pu5
    have px5_0 := cv0 px5
    have px5_1 := cv1 px5
    have px5_2 := cv2 px5
    have px5_3 := cv3 px5
    have px5_4 := cv4 px5
    have px5_5 := cv5 px5
    have px5_6 := cv6 px5
    have px5_7 := cv7 px5
    have px5_l := lt_heap px5
    have PX5 := Lib.hid px5
    clear px5
    go_wp2_with fail
    simp only [HC.out] at HKX
    exact HKX.out _ _ _ _ _ _ _ _ _ _ _ _ _ _ _ _ _ _ _ _ _ _ _ _ _ _ _ _ _ _ _ _ _ _ _ _ _ _ _ _ _ _ _ _ _ _ _ _ _ _ _ _ _ _ _ _ _ _ _ _ _ _ _ _ _ _ _ _ _ _ _ _ _ _ _ _ _ _ _ _ _ _ _ _ _ _ _ _ _ _ _ _ _ _ _ _ HW5.out

end Go.Proofs.YthflahcnkhmpaaaDoor
