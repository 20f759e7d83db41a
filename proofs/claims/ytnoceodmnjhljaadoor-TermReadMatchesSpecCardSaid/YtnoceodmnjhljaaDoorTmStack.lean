/-
  The visit of a stack of terms finds what tmVal finds; the types of a list of rows. Nothing here names the program.
-/
import Derived.Test.YtnoceodmnjhljaaDoorTerm
import Derived.Test.YtnoceodmnjhljaaDoorProg
import Derived.Test.YtnoceodmnjhljaaDoorFault
import Derived.Test.YtnoceodmnjhljaaDoorName
import Derived.Test.YtnoceodmnjhljaaDoorSets
import Derived.Deep.DeepCutAuto
import Derived.Test.YtnoceodmnjhljaaDoorTypeOf
namespace Go.Proofs.YtnoceodmnjhljaaDoor
open Go Go.RowKit
set_option linter.unusedSimpArgs false
set_option linter.unusedVariables false

/-- A term that is still to be visited: the term, its depth, how many variables are bound. -/
structure TmAt where
  t : Tm
  d : Nat
  bd : Nat
/-- What the visit of a stack (its top first) finds, when n nodes have been counted: the code and the place. -/
noncomputable def tmStack : List TmAt → Nat → Nat × Nat
  | [], _ => (0, 0)
  | x :: r, n => if (tmVal x.t x.d x.bd n).1 = 0 then tmStack r (tmVal x.t x.d x.bd n).2.2 else ((tmVal x.t x.d x.bd n).1, (tmVal x.t x.d x.bd n).2.1)
theorem tmStack_vals : ∀ (l : List Tm) (d bd n : Nat) (r : List TmAt), tmStack (l.map (fun t => ⟨t, d, bd⟩) ++ r) n = if (tmVals l d bd n).1 = 0 then tmStack r (tmVals l d bd n).2.2 else ((tmVals l d bd n).1, (tmVals l d bd n).2.1)
  | [], d, bd, n, r => by unfold tmVals; simp
  | t :: l, d, bd, n, r => by
    unfold tmVals
    simp only [List.map_cons, List.cons_append, tmStack]
    by_cases h : (tmVal t d bd n).1 = 0
    · rw [if_pos h, if_pos h, tmStack_vals l d bd _ r]
    · rw [if_neg h, if_neg h, if_neg h]
theorem tmStack_step (a : TmL) (l : List Tm) (d bd n : Nat) (r : List TmAt) :
    tmStack (⟨.mk a l, d, bd⟩ :: r) n = if 200 < n + 1 ∨ 40 < d then (1, n) else if a.code l.length bd = 0 then tmStack (l.map (fun t => ⟨t, d + 1, a.under bd⟩) ++ r) (n + 1) else (a.code l.length bd, n) := by
  rw [tmStack]
  simp only
  unfold tmVal
  by_cases h : 200 < n + 1 ∨ 40 < d
  · rw [if_pos h, if_pos h]; simp
  · rw [if_neg h, if_neg h]
    by_cases h2 : a.code l.length bd = 0
    · rw [if_pos h2, if_pos h2, tmStack_vals]
    · rw [if_neg h2, if_neg h2]; simp [h2]
theorem tmStack_one (t : Tm) : (tmStack [⟨t, 1, 0⟩] 0).1 = (tmVal t 1 0 0).1 ∧ ((tmVal t 1 0 0).1 ≠ 0 → (tmStack [⟨t, 1, 0⟩] 0).2 = (tmVal t 1 0 0).2.1) := by
  simp only [tmStack]
  by_cases h : (tmVal t 1 0 0).1 = 0
  · rw [if_pos h]; exact ⟨h.symm, fun h' => absurd h h'⟩
  · rw [if_neg h]; exact ⟨rfl, fun _ => rfl⟩
theorem Tree.nodess_sum {L : Type} : ∀ l : List (Tree L), (l.map fun x => x.nodes).sum = Tree.nodess l
  | [] => rfl
  | t :: l => by simp [Tree.nodess, Tree.nodess_sum l]
def stNodes (l : List TmAt) : Nat := (l.map fun x => x.t.nodes).sum

theorem stNodes_append (l l' : List TmAt) : stNodes (l ++ l') = stNodes l + stNodes l' := by simp [stNodes]
theorem stNodes_kids (d bd : Nat) : ∀ l : List Tm, stNodes (l.reverse.map (fun u => ⟨u, d, bd⟩)) = Tree.nodess l
  | [] => rfl
  | t :: l => by
    rw [List.reverse_cons, List.map_append, stNodes_append, stNodes_kids d bd l]
    simp [stNodes, Tree.nodess]; omega
theorem stNodes_pop (L : List TmAt) (a : TmL) (l : List Tm) (d bd d1 b1 : Nat) : stNodes (L ++ l.reverse.map (fun u => ⟨u, d1, b1⟩)) < stNodes (L ++ [⟨.mk a l, d, bd⟩]) := by
  rw [stNodes_append, stNodes_append, stNodes_kids]
  simp [stNodes, Tree.nodes]


/-- The if whose condition lies in slot n. -/
def findIf (n : Nat) : Code → Option Code
  | .cond (.tmp m) a b => if m = n then some (.cond (.tmp m) a b) else match findIf n a with
    | some c => some c
    | none => findIf n b
  | .seq a b => match findIf n a with
    | some c => some c
    | none => findIf n b
  | .block _ c => findIf n c
  | .scope c => findIf n c
  | .loop c => findIf n c
  | _ => none
noncomputable def nodeIf : Code := ((Tryd.f11.body.bind (findIf 41)).getD .skip)

theorem nonempty_of {s : ByteArray} (h : s ≠ bNil) : s.toList.isEmpty = false := by
  cases e : s.toList.isEmpty
  · rfl
  · exact absurd (bytes_inj (by rw [List.isEmpty_iff.1 e]; simp [bNil])) h

set_option maxRecDepth 1000000 in
set_option maxHeartbeats 16000000 in
theorem node_wp0 {x0 x1 x2 x3 x4 x8 x9 x10 x11 x12 x13 x14 x15 x16 x17 x18 x19 x20 x21 x22 x23 x24 x25 x26 x27 x28 x29 x30 x31 x32 x33 x34 x35 x36 x37 x38 x39 x40 x42 x43 x44 x45 x46 x47 x48 x49 x50 x51 x52 x53 x54 x55 x56 x57 x58 x59 x60 x61 x62 x63 x64 x65 x66 x67 x68 x69 x70 x71 x72 x73 x74 x75 x76 x77 x78 x79 x80 x81 x82 x83 x84 x85 x86 x87 x88 x89 x90 x91 x92 x93 x94 x95 x96 x97 x98 x99 x100 x101 x102 x103 x104 x105 x106 x107 x108 x109 x110 x111 x112 x113 x114 x115 x116 x117 x118 x119 x120 x121 x122 x123 x124 x125 x126 x127 x128 x129 x130 x131 x132 x133 x134 x135 x136 x137 x138 x139 x140 x141 x142 x143 x144 x145 x146 x147 x148 x149 x150 x151 x152 x153 x154 x155 x156 x157 x158 x159 x160 x161 x162 x163 x164 x165 x166 x167 x168 x169 x170 x171 x172 x173 x174 x175 x176 : Value} {K : Act → World → Prop} {Q' : Exit → Act → World → Prop} {b5 b6 : Nat} {b41 : Bool} {wx : World} {S : Nat → Prop} {kk : Int} {nm sa : ByteArray} {ix : Int} {ty : Ty} {l : List Tm} {A Aa : Option Addr} {c na ca d bd : Nat}
    (h1 : ¬ kk = 1) (h2 : ¬ kk = 2) (h3 : ¬ kk = 3) (h4 : ¬ kk = 4) (h41 : b41 = false) (hnm : nm.size ≤ maxLen) (hty : Ty.In wx S ty (.string sa) (.slice Aa na ca)) (hS : ∀ b, S b → b < wx.heap.size) (hm : l.length ≤ 9223372036854775807) (hbd : bd ≤ 1000)
    (px : wx.heap[b5]? = some (.cells #[.int .i64 kk, .string nm, .int .i64 ix, .string sa, .slice Aa na ca, .slice A l.length c, .int .i64 d, .int .i64 bd] 66 (0, 0)))
    (pu : wx.heap[b6]? = some (.cells #[.int .i64 kk, .string nm, .int .i64 ix, .string sa, .slice Aa na ca, .slice A l.length c] 27 (0, 0)))
    (hK : ∀ (y8 y9 y42 y43 y44 y45 y46 y47 y48 y49 y50 y51 y52 y53 y54 y55 y56 y57 y58 y59 y60 y61 y62 y63 y64 y65 y66 y67 y68 y69 y70 y71 y72 y73 y74 y75 y76 y77 y78 y79 y80 y81 y82 y83 y84 y85 y86 y87 y88 y89 y90 y91 y92 y93 y94 y95 y96 y97 y98 y99 y100 y101 y102 y103 y104 y105 y106 y107 y108 y109 y110 y111 y112 y113 y114 y115 y116 y117 y118 y119 y120 y121 y122 y123 y124 y125 y126 y127 y128 y129 y130 y131 y132 y133 y134 : Value) (wy : World), Below wx.heap.size wx wy → K ⟨#[x0, x1, x2, x3, x4, .pointer (some ⟨b5, 0, none⟩), .pointer (some ⟨b6, 0, none⟩), .int .i64 ((TmL.code ⟨kk, nm, ix, ty⟩ l.length bd : Nat) : Int), y8, y9, x10, x11, x12, x13, x14, x15, x16, x17, x18, x19, x20, x21, x22, x23, x24, x25, x26, x27, x28, x29, x30, x31, x32, x33, x34, x35, x36, x37, x38, x39, x40, .bool b41, y42, y43, y44, y45, y46, y47, y48, y49, y50, y51, y52, y53, y54, y55, y56, y57, y58, y59, y60, y61, y62, y63, y64, y65, y66, y67, y68, y69, y70, y71, y72, y73, y74, y75, y76, y77, y78, y79, y80, y81, y82, y83, y84, y85, y86, y87, y88, y89, y90, y91, y92, y93, y94, y95, y96, y97, y98, y99, y100, y101, y102, y103, y104, y105, y106, y107, y108, y109, y110, y111, y112, y113, y114, y115, y116, y117, y118, y119, y120, y121, y122, y123, y124, y125, y126, y127, y128, y129, y130, y131, y132, y133, y134, x135, x136, x137, x138, x139, x140, x141, x142, x143, x144, x145, x146, x147, x148, x149, x150, x151, x152, x153, x154, x155, x156, x157, x158, x159, x160, x161, x162, x163, x164, x165, x166, x167, x168, x169, x170, x171, x172, x173, x174, x175, x176], []⟩ wy) :
    Code.wp Tryd.prog nodeIf (Exit.then K Q') ⟨#[x0, x1, x2, x3, x4, .pointer (some ⟨b5, 0, none⟩), .pointer (some ⟨b6, 0, none⟩), .int .i64 0, x8, x9, x10, x11, x12, x13, x14, x15, x16, x17, x18, x19, x20, x21, x22, x23, x24, x25, x26, x27, x28, x29, x30, x31, x32, x33, x34, x35, x36, x37, x38, x39, x40, .bool b41, x42, x43, x44, x45, x46, x47, x48, x49, x50, x51, x52, x53, x54, x55, x56, x57, x58, x59, x60, x61, x62, x63, x64, x65, x66, x67, x68, x69, x70, x71, x72, x73, x74, x75, x76, x77, x78, x79, x80, x81, x82, x83, x84, x85, x86, x87, x88, x89, x90, x91, x92, x93, x94, x95, x96, x97, x98, x99, x100, x101, x102, x103, x104, x105, x106, x107, x108, x109, x110, x111, x112, x113, x114, x115, x116, x117, x118, x119, x120, x121, x122, x123, x124, x125, x126, x127, x128, x129, x130, x131, x132, x133, x134, x135, x136, x137, x138, x139, x140, x141, x142, x143, x144, x145, x146, x147, x148, x149, x150, x151, x152, x153, x154, x155, x156, x157, x158, x159, x160, x161, x162, x163, x164, x165, x166, x167, x168, x169, x170, x171, x172, x173, x174, x175, x176], []⟩ wx := by
  subst h41
  have q3 : (0 : Int) ≤ (l.length : Int) := by omega
  have hbl := fun (o : Obj) => refBlank_any ty _ _ (wx.alloc o) S (hty.keep (fun k hk => heap_old (hS k hk) rfl))
  have hna := fun (o : Obj) => refName_any nm (wx.alloc o) hnm
  have hfa := fun (o : Obj) => refFault_any ty _ _ (wx.alloc o) S (hty.keep (fun k hk => heap_old (hS k hk) rfl)) (fun k hk => by have := hS k hk; simp; omega)
  have hba : ∀ o, Below wx.heap.size wx (wx.alloc o) := fun o => (Below.refl _ _).alloc (Nat.le_refl _) _
  have t0 := empty_nil
  clear hnm hty hS
  have HBL := Lib.hid hbl
  have HNA := Lib.hid hna
  have HFA := Lib.hid hfa
  have HBA := Lib.hid hba
  have HK := Lib.hid hK
  clear hbl hna hfa hba hK
  have px_0 := cv0 px
  have px_1 := cv1 px
  have px_2 := cv2 px
  have px_3 := cv3 px
  have px_4 := cv4 px
  have px_5 := cv5 px
  have px_6 := cv6 px
  have px_7 := cv7 px
  have px_l := lt_heap px
  have PX := Lib.hid px
  clear px
  have pu_0 := cv0 pu
  have pu_1 := cv1 pu
  have pu_2 := cv2 pu
  have pu_3 := cv3 pu
  have pu_4 := cv4 pu
  have pu_5 := cv5 pu
  have pu_l := lt_heap pu
  have PU := Lib.hid pu
  clear pu
  conv => arg 2; whnf
  have HC := Lib.hid (show TmL.code ⟨kk, nm, ix, ty⟩ l.length bd = 4 from by simp [TmL.code, h1, h2, h3, h4])
  have HKX := HK
  by_cases g7 : kk < 1
  · go_wp2_with fail
    simp only [HC.out] at HKX
    exact HKX.out _ _ _ _ _ _ _ _ _ _ _ _ _ _ _ _ _ _ _ _ _ _ _ _ _ _ _ _ _ _ _ _ _ _ _ _ _ _ _ _ _ _ _ _ _ _ _ _ _ _ _ _ _ _ _ _ _ _ _ _ _ _ _ _ _ _ _ _ _ _ _ _ _ _ _ _ _ _ _ _ _ _ _ _ _ _ _ _ _ _ _ _ _ _ _ _ (Below.refl _ _)
  have g8 : 4 < kk := by omega
  go_wp2_with fail
  simp only [HC.out] at HKX
  exact HKX.out _ _ _ _ _ _ _ _ _ _ _ _ _ _ _ _ _ _ _ _ _ _ _ _ _ _ _ _ _ _ _ _ _ _ _ _ _ _ _ _ _ _ _ _ _ _ _ _ _ _ _ _ _ _ _ _ _ _ _ _ _ _ _ _ _ _ _ _ _ _ _ _ _ _ _ _ _ _ _ _ _ _ _ _ _ _ _ _ _ _ _ _ _ _ _ _ (Below.refl _ _)

set_option maxRecDepth 1000000 in
set_option maxHeartbeats 16000000 in
theorem node_wp1 {x0 x1 x2 x3 x4 x8 x9 x10 x11 x12 x13 x14 x15 x16 x17 x18 x19 x20 x21 x22 x23 x24 x25 x26 x27 x28 x29 x30 x31 x32 x33 x34 x35 x36 x37 x38 x39 x40 x42 x43 x44 x45 x46 x47 x48 x49 x50 x51 x52 x53 x54 x55 x56 x57 x58 x59 x60 x61 x62 x63 x64 x65 x66 x67 x68 x69 x70 x71 x72 x73 x74 x75 x76 x77 x78 x79 x80 x81 x82 x83 x84 x85 x86 x87 x88 x89 x90 x91 x92 x93 x94 x95 x96 x97 x98 x99 x100 x101 x102 x103 x104 x105 x106 x107 x108 x109 x110 x111 x112 x113 x114 x115 x116 x117 x118 x119 x120 x121 x122 x123 x124 x125 x126 x127 x128 x129 x130 x131 x132 x133 x134 x135 x136 x137 x138 x139 x140 x141 x142 x143 x144 x145 x146 x147 x148 x149 x150 x151 x152 x153 x154 x155 x156 x157 x158 x159 x160 x161 x162 x163 x164 x165 x166 x167 x168 x169 x170 x171 x172 x173 x174 x175 x176 : Value} {K : Act → World → Prop} {Q' : Exit → Act → World → Prop} {b5 b6 : Nat} {b41 : Bool} {wx : World} {S : Nat → Prop} {nm sa : ByteArray} {ix : Int} {ty : Ty} {l : List Tm} {A Aa : Option Addr} {c na ca d bd : Nat}
    (h41 : b41 = false) (hnm : nm.size ≤ maxLen) (hty : Ty.In wx S ty (.string sa) (.slice Aa na ca)) (hS : ∀ b, S b → b < wx.heap.size) (hm : l.length ≤ 9223372036854775807) (hbd : bd ≤ 1000)
    (px : wx.heap[b5]? = some (.cells #[.int .i64 1, .string nm, .int .i64 ix, .string sa, .slice Aa na ca, .slice A l.length c, .int .i64 d, .int .i64 bd] 66 (0, 0)))
    (pu : wx.heap[b6]? = some (.cells #[.int .i64 1, .string nm, .int .i64 ix, .string sa, .slice Aa na ca, .slice A l.length c] 27 (0, 0)))
    (hK : ∀ (y8 y9 y42 y43 y44 y45 y46 y47 y48 y49 y50 y51 y52 y53 y54 y55 y56 y57 y58 y59 y60 y61 y62 y63 y64 y65 y66 y67 y68 y69 y70 y71 y72 y73 y74 y75 y76 y77 y78 y79 y80 y81 y82 y83 y84 y85 y86 y87 y88 y89 y90 y91 y92 y93 y94 y95 y96 y97 y98 y99 y100 y101 y102 y103 y104 y105 y106 y107 y108 y109 y110 y111 y112 y113 y114 y115 y116 y117 y118 y119 y120 y121 y122 y123 y124 y125 y126 y127 y128 y129 y130 y131 y132 y133 y134 : Value) (wy : World), Below wx.heap.size wx wy → K ⟨#[x0, x1, x2, x3, x4, .pointer (some ⟨b5, 0, none⟩), .pointer (some ⟨b6, 0, none⟩), .int .i64 ((TmL.code ⟨1, nm, ix, ty⟩ l.length bd : Nat) : Int), y8, y9, x10, x11, x12, x13, x14, x15, x16, x17, x18, x19, x20, x21, x22, x23, x24, x25, x26, x27, x28, x29, x30, x31, x32, x33, x34, x35, x36, x37, x38, x39, x40, .bool b41, y42, y43, y44, y45, y46, y47, y48, y49, y50, y51, y52, y53, y54, y55, y56, y57, y58, y59, y60, y61, y62, y63, y64, y65, y66, y67, y68, y69, y70, y71, y72, y73, y74, y75, y76, y77, y78, y79, y80, y81, y82, y83, y84, y85, y86, y87, y88, y89, y90, y91, y92, y93, y94, y95, y96, y97, y98, y99, y100, y101, y102, y103, y104, y105, y106, y107, y108, y109, y110, y111, y112, y113, y114, y115, y116, y117, y118, y119, y120, y121, y122, y123, y124, y125, y126, y127, y128, y129, y130, y131, y132, y133, y134, x135, x136, x137, x138, x139, x140, x141, x142, x143, x144, x145, x146, x147, x148, x149, x150, x151, x152, x153, x154, x155, x156, x157, x158, x159, x160, x161, x162, x163, x164, x165, x166, x167, x168, x169, x170, x171, x172, x173, x174, x175, x176], []⟩ wy) :
    Code.wp Tryd.prog nodeIf (Exit.then K Q') ⟨#[x0, x1, x2, x3, x4, .pointer (some ⟨b5, 0, none⟩), .pointer (some ⟨b6, 0, none⟩), .int .i64 0, x8, x9, x10, x11, x12, x13, x14, x15, x16, x17, x18, x19, x20, x21, x22, x23, x24, x25, x26, x27, x28, x29, x30, x31, x32, x33, x34, x35, x36, x37, x38, x39, x40, .bool b41, x42, x43, x44, x45, x46, x47, x48, x49, x50, x51, x52, x53, x54, x55, x56, x57, x58, x59, x60, x61, x62, x63, x64, x65, x66, x67, x68, x69, x70, x71, x72, x73, x74, x75, x76, x77, x78, x79, x80, x81, x82, x83, x84, x85, x86, x87, x88, x89, x90, x91, x92, x93, x94, x95, x96, x97, x98, x99, x100, x101, x102, x103, x104, x105, x106, x107, x108, x109, x110, x111, x112, x113, x114, x115, x116, x117, x118, x119, x120, x121, x122, x123, x124, x125, x126, x127, x128, x129, x130, x131, x132, x133, x134, x135, x136, x137, x138, x139, x140, x141, x142, x143, x144, x145, x146, x147, x148, x149, x150, x151, x152, x153, x154, x155, x156, x157, x158, x159, x160, x161, x162, x163, x164, x165, x166, x167, x168, x169, x170, x171, x172, x173, x174, x175, x176], []⟩ wx := by
  subst h41
  have q3 : (0 : Int) ≤ (l.length : Int) := by omega
  have hbl := fun (o : Obj) => refBlank_any ty _ _ (wx.alloc o) S (hty.keep (fun k hk => heap_old (hS k hk) rfl))
  have hna := fun (o : Obj) => refName_any nm (wx.alloc o) hnm
  have hfa := fun (o : Obj) => refFault_any ty _ _ (wx.alloc o) S (hty.keep (fun k hk => heap_old (hS k hk) rfl)) (fun k hk => by have := hS k hk; simp; omega)
  have hba : ∀ o, Below wx.heap.size wx (wx.alloc o) := fun o => (Below.refl _ _).alloc (Nat.le_refl _) _
  have t0 := empty_nil
  clear hnm hty hS
  have HBL := Lib.hid hbl
  have HNA := Lib.hid hna
  have HFA := Lib.hid hfa
  have HBA := Lib.hid hba
  have HK := Lib.hid hK
  clear hbl hna hfa hba hK
  have px_0 := cv0 px
  have px_1 := cv1 px
  have px_2 := cv2 px
  have px_3 := cv3 px
  have px_4 := cv4 px
  have px_5 := cv5 px
  have px_6 := cv6 px
  have px_7 := cv7 px
  have px_l := lt_heap px
  have PX := Lib.hid px
  clear px
  have pu_0 := cv0 pu
  have pu_1 := cv1 pu
  have pu_2 := cv2 pu
  have pu_3 := cv3 pu
  have pu_4 := cv4 pu
  have pu_5 := cv5 pu
  have pu_l := lt_heap pu
  have PU := Lib.hid pu
  clear pu
  conv => arg 2; whnf
  by_cases g1 : l.length = 0
  case neg =>
    have t1 : ((l.length : Int) == 0) = false := beq_eq_false_iff_ne.2 (by omega)
    have HC := Lib.hid (show TmL.code ⟨1, nm, ix, ty⟩ l.length bd = 5 from by simp [TmL.code, g1])
    have HKX := HK
    clear g1
    go_wp2_with fail
    simp only [HC.out] at HKX
    exact HKX.out _ _ _ _ _ _ _ _ _ _ _ _ _ _ _ _ _ _ _ _ _ _ _ _ _ _ _ _ _ _ _ _ _ _ _ _ _ _ _ _ _ _ _ _ _ _ _ _ _ _ _ _ _ _ _ _ _ _ _ _ _ _ _ _ _ _ _ _ _ _ _ _ _ _ _ _ _ _ _ _ _ _ _ _ _ _ _ _ _ _ _ _ _ _ _ _ (HBA.out _)
  have t1 : ((l.length : Int) == 0) = true := by rw [g1]; rfl
  by_cases g2 : ix = 0
  case neg =>
    have t2 : (ix == 0) = false := beq_eq_false_iff_ne.2 g2
    have HC := Lib.hid (show TmL.code ⟨1, nm, ix, ty⟩ l.length bd = 5 from by simp [TmL.code, g2])
    have HKX := HK
    clear g2
    go_wp2_with fail
    simp only [HC.out] at HKX
    exact HKX.out _ _ _ _ _ _ _ _ _ _ _ _ _ _ _ _ _ _ _ _ _ _ _ _ _ _ _ _ _ _ _ _ _ _ _ _ _ _ _ _ _ _ _ _ _ _ _ _ _ _ _ _ _ _ _ _ _ _ _ _ _ _ _ _ _ _ _ _ _ _ _ _ _ _ _ _ _ _ _ _ _ _ _ _ _ _ _ _ _ _ _ _ _ _ _ _ (HBA.out _)
  have t2 : (ix == 0) = true := by rw [g2]; rfl
  cases g4 : okName nm with
  | false =>
    have HC := Lib.hid (show TmL.code ⟨1, nm, ix, ty⟩ l.length bd = 10 from by simp [TmL.code, g1, g2, g4])
    have HKX := HK
    have G4 := Lib.hid g4
    clear g4
    go_wp2_with fail
    (with_reducible refine (HNA.out _).mono ?_)
    rw [G4.out]
    rintro e w5 ⟨rfl, rfl⟩
    go_wp2_with fail
    simp only [HC.out] at HKX
    exact HKX.out _ _ _ _ _ _ _ _ _ _ _ _ _ _ _ _ _ _ _ _ _ _ _ _ _ _ _ _ _ _ _ _ _ _ _ _ _ _ _ _ _ _ _ _ _ _ _ _ _ _ _ _ _ _ _ _ _ _ _ _ _ _ _ _ _ _ _ _ _ _ _ _ _ _ _ _ _ _ _ _ _ _ _ _ _ _ _ _ _ _ _ _ _ _ _ _ (HBA.out _)
  | true =>
    have G4 := Lib.hid g4
    by_cases g5 : ty.fault = 0
    case neg =>
      have HC := Lib.hid (show TmL.code ⟨1, nm, ix, ty⟩ l.length bd = 12 from by simp [TmL.code, g1, g2, g4, g5])
      have HKX := HK
      have t5 : ((ty.fault : Int) != 0) = true := bne_iff_ne.2 (by omega)
      clear g4
      go_wp2_with fail
      (with_reducible refine (HNA.out _).mono ?_)
      rw [G4.out]
      rintro e w5 ⟨rfl, rfl⟩
      go_wp2_with fail
      (with_reducible refine (HFA.out _).mono ?_)
      rintro e w5 ⟨rfl, hw5⟩
      have HW5 := Lib.hid ((HBA.out _).trans (hw5.mono (by simp)))
      clear hw5
      have pu5 := (HW5.out.block _ pu_l).trans PU.out
      have px5 := (HW5.out.block _ px_l).trans PX.out
      have z6 := HW5.out.size
      clear pu_0 pu_1 pu_2 pu_3 pu_4 pu_5 px_0 px_1 px_2 px_3 px_4 px_5 px_6 px_7
      have pu5_0 := cv0 pu5
      have pu5_1 := cv1 pu5
      have pu5_2 := cv2 pu5
      have pu5_3 := cv3 pu5
      have pu5_4 := cv4 pu5
      have pu5_5 := cv5 pu5
      have pu5_l := lt_heap pu5
      have PU5 := Lib.hid pu5
      clear pu5
      have px5_0 := cv0 px5
      have px5_1 := cv1 px5
      have px5_2 := cv2 px5
      have px5_3 := cv3 px5
      have px5_4 := cv4 px5
      have px5_5 := cv5 px5
      have px5_6 := cv6 px5
      have px5_7 := cv7 px5
      have px5_l := lt_heap px5
      have PX5 := Lib.hid px5
      clear px5
      go_wp2_with fail
      simp only [HC.out] at HKX
      exact HKX.out _ _ _ _ _ _ _ _ _ _ _ _ _ _ _ _ _ _ _ _ _ _ _ _ _ _ _ _ _ _ _ _ _ _ _ _ _ _ _ _ _ _ _ _ _ _ _ _ _ _ _ _ _ _ _ _ _ _ _ _ _ _ _ _ _ _ _ _ _ _ _ _ _ _ _ _ _ _ _ _ _ _ _ _ _ _ _ _ _ _ _ _ _ _ _ _ HW5.out
    have HC := Lib.hid (show TmL.code ⟨1, nm, ix, ty⟩ l.length bd = 0 from by simp [TmL.code, g1, g2, g4, g5])
    have HKX := HK
    have t5 : ((ty.fault : Int) != 0) = false := by rw [g5]; rfl
    clear g4
    go_wp2_with fail
    (with_reducible refine (HNA.out _).mono ?_)
    rw [G4.out]
    rintro e w5 ⟨rfl, rfl⟩
    go_wp2_with fail
    (with_reducible refine (HFA.out _).mono ?_)
    rintro e w5 ⟨rfl, hw5⟩
    have HW5 := Lib.hid ((HBA.out _).trans (hw5.mono (by simp)))
    clear hw5
    have pu5 := (HW5.out.block _ pu_l).trans PU.out
    have px5 := (HW5.out.block _ px_l).trans PX.out
    have z6 := HW5.out.size
    clear pu_0 pu_1 pu_2 pu_3 pu_4 pu_5 px_0 px_1 px_2 px_3 px_4 px_5 px_6 px_7
    have pu5_0 := cv0 pu5
    have pu5_1 := cv1 pu5
    have pu5_2 := cv2 pu5
    have pu5_3 := cv3 pu5
    have pu5_4 := cv4 pu5
    have pu5_5 := cv5 pu5
    have pu5_l := lt_heap pu5
    have PU5 := Lib.hid pu5
    clear pu5
    have px5_0 := cv0 px5
    have px5_1 := cv1 px5
    have px5_2 := cv2 px5
    have px5_3 := cv3 px5
    have px5_4 := cv4 px5
    have px5_5 := cv5 px5
    have px5_6 := cv6 px5
    have px5_7 := cv7 px5
    have px5_l := lt_heap px5
    have PX5 := Lib.hid px5
    clear px5
    go_wp2_with fail
    simp only [HC.out] at HKX
    exact HKX.out _ _ _ _ _ _ _ _ _ _ _ _ _ _ _ _ _ _ _ _ _ _ _ _ _ _ _ _ _ _ _ _ _ _ _ _ _ _ _ _ _ _ _ _ _ _ _ _ _ _ _ _ _ _ _ _ _ _ _ _ _ _ _ _ _ _ _ _ _ _ _ _ _ _ _ _ _ _ _ _ _ _ _ _ _ _ _ _ _ _ _ _ _ _ _ _ HW5.out

set_option maxRecDepth 1000000 in
set_option maxHeartbeats 16000000 in
theorem node_wp2 {x0 x1 x2 x3 x4 x8 x9 x10 x11 x12 x13 x14 x15 x16 x17 x18 x19 x20 x21 x22 x23 x24 x25 x26 x27 x28 x29 x30 x31 x32 x33 x34 x35 x36 x37 x38 x39 x40 x42 x43 x44 x45 x46 x47 x48 x49 x50 x51 x52 x53 x54 x55 x56 x57 x58 x59 x60 x61 x62 x63 x64 x65 x66 x67 x68 x69 x70 x71 x72 x73 x74 x75 x76 x77 x78 x79 x80 x81 x82 x83 x84 x85 x86 x87 x88 x89 x90 x91 x92 x93 x94 x95 x96 x97 x98 x99 x100 x101 x102 x103 x104 x105 x106 x107 x108 x109 x110 x111 x112 x113 x114 x115 x116 x117 x118 x119 x120 x121 x122 x123 x124 x125 x126 x127 x128 x129 x130 x131 x132 x133 x134 x135 x136 x137 x138 x139 x140 x141 x142 x143 x144 x145 x146 x147 x148 x149 x150 x151 x152 x153 x154 x155 x156 x157 x158 x159 x160 x161 x162 x163 x164 x165 x166 x167 x168 x169 x170 x171 x172 x173 x174 x175 x176 : Value} {K : Act → World → Prop} {Q' : Exit → Act → World → Prop} {b5 b6 : Nat} {b41 : Bool} {wx : World} {S : Nat → Prop} {nm sa : ByteArray} {ix : Int} {ty : Ty} {l : List Tm} {A Aa : Option Addr} {c na ca d bd : Nat}
    (h41 : b41 = false) (hnm : nm.size ≤ maxLen) (hty : Ty.In wx S ty (.string sa) (.slice Aa na ca)) (hS : ∀ b, S b → b < wx.heap.size) (hm : l.length ≤ 9223372036854775807) (hbd : bd ≤ 1000)
    (px : wx.heap[b5]? = some (.cells #[.int .i64 2, .string nm, .int .i64 ix, .string sa, .slice Aa na ca, .slice A l.length c, .int .i64 d, .int .i64 bd] 66 (0, 0)))
    (pu : wx.heap[b6]? = some (.cells #[.int .i64 2, .string nm, .int .i64 ix, .string sa, .slice Aa na ca, .slice A l.length c] 27 (0, 0)))
    (hK : ∀ (y8 y9 y42 y43 y44 y45 y46 y47 y48 y49 y50 y51 y52 y53 y54 y55 y56 y57 y58 y59 y60 y61 y62 y63 y64 y65 y66 y67 y68 y69 y70 y71 y72 y73 y74 y75 y76 y77 y78 y79 y80 y81 y82 y83 y84 y85 y86 y87 y88 y89 y90 y91 y92 y93 y94 y95 y96 y97 y98 y99 y100 y101 y102 y103 y104 y105 y106 y107 y108 y109 y110 y111 y112 y113 y114 y115 y116 y117 y118 y119 y120 y121 y122 y123 y124 y125 y126 y127 y128 y129 y130 y131 y132 y133 y134 : Value) (wy : World), Below wx.heap.size wx wy → K ⟨#[x0, x1, x2, x3, x4, .pointer (some ⟨b5, 0, none⟩), .pointer (some ⟨b6, 0, none⟩), .int .i64 ((TmL.code ⟨2, nm, ix, ty⟩ l.length bd : Nat) : Int), y8, y9, x10, x11, x12, x13, x14, x15, x16, x17, x18, x19, x20, x21, x22, x23, x24, x25, x26, x27, x28, x29, x30, x31, x32, x33, x34, x35, x36, x37, x38, x39, x40, .bool b41, y42, y43, y44, y45, y46, y47, y48, y49, y50, y51, y52, y53, y54, y55, y56, y57, y58, y59, y60, y61, y62, y63, y64, y65, y66, y67, y68, y69, y70, y71, y72, y73, y74, y75, y76, y77, y78, y79, y80, y81, y82, y83, y84, y85, y86, y87, y88, y89, y90, y91, y92, y93, y94, y95, y96, y97, y98, y99, y100, y101, y102, y103, y104, y105, y106, y107, y108, y109, y110, y111, y112, y113, y114, y115, y116, y117, y118, y119, y120, y121, y122, y123, y124, y125, y126, y127, y128, y129, y130, y131, y132, y133, y134, x135, x136, x137, x138, x139, x140, x141, x142, x143, x144, x145, x146, x147, x148, x149, x150, x151, x152, x153, x154, x155, x156, x157, x158, x159, x160, x161, x162, x163, x164, x165, x166, x167, x168, x169, x170, x171, x172, x173, x174, x175, x176], []⟩ wy) :
    Code.wp Tryd.prog nodeIf (Exit.then K Q') ⟨#[x0, x1, x2, x3, x4, .pointer (some ⟨b5, 0, none⟩), .pointer (some ⟨b6, 0, none⟩), .int .i64 0, x8, x9, x10, x11, x12, x13, x14, x15, x16, x17, x18, x19, x20, x21, x22, x23, x24, x25, x26, x27, x28, x29, x30, x31, x32, x33, x34, x35, x36, x37, x38, x39, x40, .bool b41, x42, x43, x44, x45, x46, x47, x48, x49, x50, x51, x52, x53, x54, x55, x56, x57, x58, x59, x60, x61, x62, x63, x64, x65, x66, x67, x68, x69, x70, x71, x72, x73, x74, x75, x76, x77, x78, x79, x80, x81, x82, x83, x84, x85, x86, x87, x88, x89, x90, x91, x92, x93, x94, x95, x96, x97, x98, x99, x100, x101, x102, x103, x104, x105, x106, x107, x108, x109, x110, x111, x112, x113, x114, x115, x116, x117, x118, x119, x120, x121, x122, x123, x124, x125, x126, x127, x128, x129, x130, x131, x132, x133, x134, x135, x136, x137, x138, x139, x140, x141, x142, x143, x144, x145, x146, x147, x148, x149, x150, x151, x152, x153, x154, x155, x156, x157, x158, x159, x160, x161, x162, x163, x164, x165, x166, x167, x168, x169, x170, x171, x172, x173, x174, x175, x176], []⟩ wx := by
  subst h41
  have q3 : (0 : Int) ≤ (l.length : Int) := by omega
  have hbl := fun (o : Obj) => refBlank_any ty _ _ (wx.alloc o) S (hty.keep (fun k hk => heap_old (hS k hk) rfl))
  have hna := fun (o : Obj) => refName_any nm (wx.alloc o) hnm
  have hfa := fun (o : Obj) => refFault_any ty _ _ (wx.alloc o) S (hty.keep (fun k hk => heap_old (hS k hk) rfl)) (fun k hk => by have := hS k hk; simp; omega)
  have hba : ∀ o, Below wx.heap.size wx (wx.alloc o) := fun o => (Below.refl _ _).alloc (Nat.le_refl _) _
  have t0 := empty_nil
  clear hnm hty hS
  have HBL := Lib.hid hbl
  have HNA := Lib.hid hna
  have HFA := Lib.hid hfa
  have HBA := Lib.hid hba
  have HK := Lib.hid hK
  clear hbl hna hfa hba hK
  have px_0 := cv0 px
  have px_1 := cv1 px
  have px_2 := cv2 px
  have px_3 := cv3 px
  have px_4 := cv4 px
  have px_5 := cv5 px
  have px_6 := cv6 px
  have px_7 := cv7 px
  have px_l := lt_heap px
  have PX := Lib.hid px
  clear px
  have pu_0 := cv0 pu
  have pu_1 := cv1 pu
  have pu_2 := cv2 pu
  have pu_3 := cv3 pu
  have pu_4 := cv4 pu
  have pu_5 := cv5 pu
  have pu_l := lt_heap pu
  have PU := Lib.hid pu
  clear pu
  conv => arg 2; whnf
  by_cases g1 : l.length = 0
  case neg =>
    have t1 : ((l.length : Int) == 0) = false := beq_eq_false_iff_ne.2 (by omega)
    have HC := Lib.hid (show TmL.code ⟨2, nm, ix, ty⟩ l.length bd = 5 from by simp [TmL.code, g1])
    have HKX := HK
    clear g1
    go_wp2_with fail
    simp only [HC.out] at HKX
    exact HKX.out _ _ _ _ _ _ _ _ _ _ _ _ _ _ _ _ _ _ _ _ _ _ _ _ _ _ _ _ _ _ _ _ _ _ _ _ _ _ _ _ _ _ _ _ _ _ _ _ _ _ _ _ _ _ _ _ _ _ _ _ _ _ _ _ _ _ _ _ _ _ _ _ _ _ _ _ _ _ _ _ _ _ _ _ _ _ _ _ _ _ _ _ _ _ _ _ (HBA.out _)
  have t1 : ((l.length : Int) == 0) = true := by rw [g1]; rfl
  by_cases g3 : nm = bNil
  case neg =>
    have t3 := nonempty_of g3
    have HC := Lib.hid (show TmL.code ⟨2, nm, ix, ty⟩ l.length bd = 5 from by simp [TmL.code, g3])
    have HKX := HK
    clear g3
    go_wp2_with fail
    simp only [HC.out] at HKX
    exact HKX.out _ _ _ _ _ _ _ _ _ _ _ _ _ _ _ _ _ _ _ _ _ _ _ _ _ _ _ _ _ _ _ _ _ _ _ _ _ _ _ _ _ _ _ _ _ _ _ _ _ _ _ _ _ _ _ _ _ _ _ _ _ _ _ _ _ _ _ _ _ _ _ _ _ _ _ _ _ _ _ _ _ _ _ _ _ _ _ _ _ _ _ _ _ _ _ _ (HBA.out _)
  have t3 : nm.toList.isEmpty = true := by rw [g3]; exact empty_nil
  cases g4 : ty.blank with
  | false =>
    have HC := Lib.hid (show TmL.code ⟨2, nm, ix, ty⟩ l.length bd = 5 from by simp [TmL.code, g4])
    have HKX := HK
    have G4 := Lib.hid g4
    clear g4
    go_wp2_with fail
    (with_reducible refine (HBL.out _).mono ?_)
    rw [G4.out]
    rintro e w5 ⟨rfl, hw5⟩
    have HW5 := Lib.hid ((HBA.out _).trans (hw5.mono (by simp)))
    clear hw5
    have pu5 := (HW5.out.block _ pu_l).trans PU.out
    have px5 := (HW5.out.block _ px_l).trans PX.out
    have z6 := HW5.out.size
    clear pu_0 pu_1 pu_2 pu_3 pu_4 pu_5 px_0 px_1 px_2 px_3 px_4 px_5 px_6 px_7
    have pu5_0 := cv0 pu5
    have pu5_1 := cv1 pu5
    have pu5_2 := cv2 pu5
    have pu5_3 := cv3 pu5
    have pu5_4 := cv4 pu5
    have pu5_5 := cv5 pu5
    have pu5_l := lt_heap pu5
    have PU5 := Lib.hid pu5
    clear pu5
    have px5_0 := cv0 px5
    have px5_1 := cv1 px5
    have px5_2 := cv2 px5
    have px5_3 := cv3 px5
    have px5_4 := cv4 px5
    have px5_5 := cv5 px5
    have px5_6 := cv6 px5
    have px5_7 := cv7 px5
    have px5_l := lt_heap px5
    have PX5 := Lib.hid px5
    clear px5
    go_wp2_with fail
    simp only [HC.out] at HKX
    exact HKX.out _ _ _ _ _ _ _ _ _ _ _ _ _ _ _ _ _ _ _ _ _ _ _ _ _ _ _ _ _ _ _ _ _ _ _ _ _ _ _ _ _ _ _ _ _ _ _ _ _ _ _ _ _ _ _ _ _ _ _ _ _ _ _ _ _ _ _ _ _ _ _ _ _ _ _ _ _ _ _ _ _ _ _ _ _ _ _ _ _ _ _ _ _ _ _ _ HW5.out
  | true =>
    have G4 := Lib.hid g4
    by_cases g5 : ix < 0
    case pos =>
      have HC := Lib.hid (show TmL.code ⟨2, nm, ix, ty⟩ l.length bd = 15 from by simp [TmL.code, g1, g3, g4, g5])
      have HKX := HK
      clear g4
      go_wp2_with fail
      (with_reducible refine (HBL.out _).mono ?_)
      rw [G4.out]
      rintro e w5 ⟨rfl, hw5⟩
      have HW5 := Lib.hid ((HBA.out _).trans (hw5.mono (by simp)))
      clear hw5
      have pu5 := (HW5.out.block _ pu_l).trans PU.out
      have px5 := (HW5.out.block _ px_l).trans PX.out
      have z6 := HW5.out.size
      clear pu_0 pu_1 pu_2 pu_3 pu_4 pu_5 px_0 px_1 px_2 px_3 px_4 px_5 px_6 px_7
      have pu5_0 := cv0 pu5
      have pu5_1 := cv1 pu5
      have pu5_2 := cv2 pu5
      have pu5_3 := cv3 pu5
      have pu5_4 := cv4 pu5
      have pu5_5 := cv5 pu5
      have pu5_l := lt_heap pu5
      have PU5 := Lib.hid pu5
      clear pu5
      have px5_0 := cv0 px5
      have px5_1 := cv1 px5
      have px5_2 := cv2 px5
      have px5_3 := cv3 px5
      have px5_4 := cv4 px5
      have px5_5 := cv5 px5
      have px5_6 := cv6 px5
      have px5_7 := cv7 px5
      have px5_l := lt_heap px5
      have PX5 := Lib.hid px5
      clear px5
      go_wp2_with fail
      simp only [HC.out] at HKX
      exact HKX.out _ _ _ _ _ _ _ _ _ _ _ _ _ _ _ _ _ _ _ _ _ _ _ _ _ _ _ _ _ _ _ _ _ _ _ _ _ _ _ _ _ _ _ _ _ _ _ _ _ _ _ _ _ _ _ _ _ _ _ _ _ _ _ _ _ _ _ _ _ _ _ _ _ _ _ _ _ _ _ _ _ _ _ _ _ _ _ _ _ _ _ _ _ _ _ _ HW5.out
    by_cases g6 : (bd : Int) ≤ ix
    case pos =>
      have HC := Lib.hid (show TmL.code ⟨2, nm, ix, ty⟩ l.length bd = 15 from by simp [TmL.code, g1, g3, g4, g6])
      have HKX := HK
      clear g4
      go_wp2_with fail
      (with_reducible refine (HBL.out _).mono ?_)
      rw [G4.out]
      rintro e w5 ⟨rfl, hw5⟩
      have HW5 := Lib.hid ((HBA.out _).trans (hw5.mono (by simp)))
      clear hw5
      have pu5 := (HW5.out.block _ pu_l).trans PU.out
      have px5 := (HW5.out.block _ px_l).trans PX.out
      have z6 := HW5.out.size
      clear pu_0 pu_1 pu_2 pu_3 pu_4 pu_5 px_0 px_1 px_2 px_3 px_4 px_5 px_6 px_7
      have pu5_0 := cv0 pu5
      have pu5_1 := cv1 pu5
      have pu5_2 := cv2 pu5
      have pu5_3 := cv3 pu5
      have pu5_4 := cv4 pu5
      have pu5_5 := cv5 pu5
      have pu5_l := lt_heap pu5
      have PU5 := Lib.hid pu5
      clear pu5
      have px5_0 := cv0 px5
      have px5_1 := cv1 px5
      have px5_2 := cv2 px5
      have px5_3 := cv3 px5
      have px5_4 := cv4 px5
      have px5_5 := cv5 px5
      have px5_6 := cv6 px5
      have px5_7 := cv7 px5
      have px5_l := lt_heap px5
      have PX5 := Lib.hid px5
      clear px5
      go_wp2_with fail
      simp only [HC.out] at HKX
      exact HKX.out _ _ _ _ _ _ _ _ _ _ _ _ _ _ _ _ _ _ _ _ _ _ _ _ _ _ _ _ _ _ _ _ _ _ _ _ _ _ _ _ _ _ _ _ _ _ _ _ _ _ _ _ _ _ _ _ _ _ _ _ _ _ _ _ _ _ _ _ _ _ _ _ _ _ _ _ _ _ _ _ _ _ _ _ _ _ _ _ _ _ _ _ _ _ _ _ HW5.out
    have HC := Lib.hid (show TmL.code ⟨2, nm, ix, ty⟩ l.length bd = 0 from by simp [TmL.code, g1, g3, g4, g5, g6] <;> omega)
    have HKX := HK
    clear g4
    go_wp2_with fail
    (with_reducible refine (HBL.out _).mono ?_)
    rw [G4.out]
    rintro e w5 ⟨rfl, hw5⟩
    have HW5 := Lib.hid ((HBA.out _).trans (hw5.mono (by simp)))
    clear hw5
    have pu5 := (HW5.out.block _ pu_l).trans PU.out
    have px5 := (HW5.out.block _ px_l).trans PX.out
    have z6 := HW5.out.size
    clear pu_0 pu_1 pu_2 pu_3 pu_4 pu_5 px_0 px_1 px_2 px_3 px_4 px_5 px_6 px_7
    have pu5_0 := cv0 pu5
    have pu5_1 := cv1 pu5
    have pu5_2 := cv2 pu5
    have pu5_3 := cv3 pu5
    have pu5_4 := cv4 pu5
    have pu5_5 := cv5 pu5
    have pu5_l := lt_heap pu5
    have PU5 := Lib.hid pu5
    clear pu5
    have px5_0 := cv0 px5
    have px5_1 := cv1 px5
    have px5_2 := cv2 px5
    have px5_3 := cv3 px5
    have px5_4 := cv4 px5
    have px5_5 := cv5 px5
    have px5_6 := cv6 px5
    have px5_7 := cv7 px5
    have px5_l := lt_heap px5
    have PX5 := Lib.hid px5
    clear px5
    go_wp2_with fail
    simp only [HC.out] at HKX
    exact HKX.out _ _ _ _ _ _ _ _ _ _ _ _ _ _ _ _ _ _ _ _ _ _ _ _ _ _ _ _ _ _ _ _ _ _ _ _ _ _ _ _ _ _ _ _ _ _ _ _ _ _ _ _ _ _ _ _ _ _ _ _ _ _ _ _ _ _ _ _ _ _ _ _ _ _ _ _ _ _ _ _ _ _ _ _ _ _ _ _ _ _ _ _ _ _ _ _ HW5.out

set_option maxRecDepth 1000000 in
set_option maxHeartbeats 16000000 in
theorem node_wp3 {x0 x1 x2 x3 x4 x8 x9 x10 x11 x12 x13 x14 x15 x16 x17 x18 x19 x20 x21 x22 x23 x24 x25 x26 x27 x28 x29 x30 x31 x32 x33 x34 x35 x36 x37 x38 x39 x40 x42 x43 x44 x45 x46 x47 x48 x49 x50 x51 x52 x53 x54 x55 x56 x57 x58 x59 x60 x61 x62 x63 x64 x65 x66 x67 x68 x69 x70 x71 x72 x73 x74 x75 x76 x77 x78 x79 x80 x81 x82 x83 x84 x85 x86 x87 x88 x89 x90 x91 x92 x93 x94 x95 x96 x97 x98 x99 x100 x101 x102 x103 x104 x105 x106 x107 x108 x109 x110 x111 x112 x113 x114 x115 x116 x117 x118 x119 x120 x121 x122 x123 x124 x125 x126 x127 x128 x129 x130 x131 x132 x133 x134 x135 x136 x137 x138 x139 x140 x141 x142 x143 x144 x145 x146 x147 x148 x149 x150 x151 x152 x153 x154 x155 x156 x157 x158 x159 x160 x161 x162 x163 x164 x165 x166 x167 x168 x169 x170 x171 x172 x173 x174 x175 x176 : Value} {K : Act → World → Prop} {Q' : Exit → Act → World → Prop} {b5 b6 : Nat} {b41 : Bool} {wx : World} {S : Nat → Prop} {nm sa : ByteArray} {ix : Int} {ty : Ty} {l : List Tm} {A Aa : Option Addr} {c na ca d bd : Nat}
    (h41 : b41 = false) (hnm : nm.size ≤ maxLen) (hty : Ty.In wx S ty (.string sa) (.slice Aa na ca)) (hS : ∀ b, S b → b < wx.heap.size) (hm : l.length ≤ 9223372036854775807) (hbd : bd ≤ 1000)
    (px : wx.heap[b5]? = some (.cells #[.int .i64 3, .string nm, .int .i64 ix, .string sa, .slice Aa na ca, .slice A l.length c, .int .i64 d, .int .i64 bd] 66 (0, 0)))
    (pu : wx.heap[b6]? = some (.cells #[.int .i64 3, .string nm, .int .i64 ix, .string sa, .slice Aa na ca, .slice A l.length c] 27 (0, 0)))
    (hK : ∀ (y8 y9 y42 y43 y44 y45 y46 y47 y48 y49 y50 y51 y52 y53 y54 y55 y56 y57 y58 y59 y60 y61 y62 y63 y64 y65 y66 y67 y68 y69 y70 y71 y72 y73 y74 y75 y76 y77 y78 y79 y80 y81 y82 y83 y84 y85 y86 y87 y88 y89 y90 y91 y92 y93 y94 y95 y96 y97 y98 y99 y100 y101 y102 y103 y104 y105 y106 y107 y108 y109 y110 y111 y112 y113 y114 y115 y116 y117 y118 y119 y120 y121 y122 y123 y124 y125 y126 y127 y128 y129 y130 y131 y132 y133 y134 : Value) (wy : World), Below wx.heap.size wx wy → K ⟨#[x0, x1, x2, x3, x4, .pointer (some ⟨b5, 0, none⟩), .pointer (some ⟨b6, 0, none⟩), .int .i64 ((TmL.code ⟨3, nm, ix, ty⟩ l.length bd : Nat) : Int), y8, y9, x10, x11, x12, x13, x14, x15, x16, x17, x18, x19, x20, x21, x22, x23, x24, x25, x26, x27, x28, x29, x30, x31, x32, x33, x34, x35, x36, x37, x38, x39, x40, .bool b41, y42, y43, y44, y45, y46, y47, y48, y49, y50, y51, y52, y53, y54, y55, y56, y57, y58, y59, y60, y61, y62, y63, y64, y65, y66, y67, y68, y69, y70, y71, y72, y73, y74, y75, y76, y77, y78, y79, y80, y81, y82, y83, y84, y85, y86, y87, y88, y89, y90, y91, y92, y93, y94, y95, y96, y97, y98, y99, y100, y101, y102, y103, y104, y105, y106, y107, y108, y109, y110, y111, y112, y113, y114, y115, y116, y117, y118, y119, y120, y121, y122, y123, y124, y125, y126, y127, y128, y129, y130, y131, y132, y133, y134, x135, x136, x137, x138, x139, x140, x141, x142, x143, x144, x145, x146, x147, x148, x149, x150, x151, x152, x153, x154, x155, x156, x157, x158, x159, x160, x161, x162, x163, x164, x165, x166, x167, x168, x169, x170, x171, x172, x173, x174, x175, x176], []⟩ wy) :
    Code.wp Tryd.prog nodeIf (Exit.then K Q') ⟨#[x0, x1, x2, x3, x4, .pointer (some ⟨b5, 0, none⟩), .pointer (some ⟨b6, 0, none⟩), .int .i64 0, x8, x9, x10, x11, x12, x13, x14, x15, x16, x17, x18, x19, x20, x21, x22, x23, x24, x25, x26, x27, x28, x29, x30, x31, x32, x33, x34, x35, x36, x37, x38, x39, x40, .bool b41, x42, x43, x44, x45, x46, x47, x48, x49, x50, x51, x52, x53, x54, x55, x56, x57, x58, x59, x60, x61, x62, x63, x64, x65, x66, x67, x68, x69, x70, x71, x72, x73, x74, x75, x76, x77, x78, x79, x80, x81, x82, x83, x84, x85, x86, x87, x88, x89, x90, x91, x92, x93, x94, x95, x96, x97, x98, x99, x100, x101, x102, x103, x104, x105, x106, x107, x108, x109, x110, x111, x112, x113, x114, x115, x116, x117, x118, x119, x120, x121, x122, x123, x124, x125, x126, x127, x128, x129, x130, x131, x132, x133, x134, x135, x136, x137, x138, x139, x140, x141, x142, x143, x144, x145, x146, x147, x148, x149, x150, x151, x152, x153, x154, x155, x156, x157, x158, x159, x160, x161, x162, x163, x164, x165, x166, x167, x168, x169, x170, x171, x172, x173, x174, x175, x176], []⟩ wx := by
  subst h41
  have q3 : (0 : Int) ≤ (l.length : Int) := by omega
  have hbl := fun (o : Obj) => refBlank_any ty _ _ (wx.alloc o) S (hty.keep (fun k hk => heap_old (hS k hk) rfl))
  have hna := fun (o : Obj) => refName_any nm (wx.alloc o) hnm
  have hfa := fun (o : Obj) => refFault_any ty _ _ (wx.alloc o) S (hty.keep (fun k hk => heap_old (hS k hk) rfl)) (fun k hk => by have := hS k hk; simp; omega)
  have hba : ∀ o, Below wx.heap.size wx (wx.alloc o) := fun o => (Below.refl _ _).alloc (Nat.le_refl _) _
  have t0 := empty_nil
  clear hnm hty hS
  have HBL := Lib.hid hbl
  have HNA := Lib.hid hna
  have HFA := Lib.hid hfa
  have HBA := Lib.hid hba
  have HK := Lib.hid hK
  clear hbl hna hfa hba hK
  have px_0 := cv0 px
  have px_1 := cv1 px
  have px_2 := cv2 px
  have px_3 := cv3 px
  have px_4 := cv4 px
  have px_5 := cv5 px
  have px_6 := cv6 px
  have px_7 := cv7 px
  have px_l := lt_heap px
  have PX := Lib.hid px
  clear px
  have pu_0 := cv0 pu
  have pu_1 := cv1 pu
  have pu_2 := cv2 pu
  have pu_3 := cv3 pu
  have pu_4 := cv4 pu
  have pu_5 := cv5 pu
  have pu_l := lt_heap pu
  have PU := Lib.hid pu
  clear pu
  conv => arg 2; whnf
  by_cases g1 : l.length = 1
  case neg =>
    have t1 : ((l.length : Int) == 1) = false := beq_eq_false_iff_ne.2 (by omega)
    have HC := Lib.hid (show TmL.code ⟨3, nm, ix, ty⟩ l.length bd = 5 from by simp [TmL.code, g1])
    have HKX := HK
    clear g1
    go_wp2_with fail
    simp only [HC.out] at HKX
    exact HKX.out _ _ _ _ _ _ _ _ _ _ _ _ _ _ _ _ _ _ _ _ _ _ _ _ _ _ _ _ _ _ _ _ _ _ _ _ _ _ _ _ _ _ _ _ _ _ _ _ _ _ _ _ _ _ _ _ _ _ _ _ _ _ _ _ _ _ _ _ _ _ _ _ _ _ _ _ _ _ _ _ _ _ _ _ _ _ _ _ _ _ _ _ _ _ _ _ (HBA.out _)
  have t1 : ((l.length : Int) == 1) = true := by rw [g1]; rfl
  by_cases g3 : nm = bNil
  case neg =>
    have t3 := nonempty_of g3
    have HC := Lib.hid (show TmL.code ⟨3, nm, ix, ty⟩ l.length bd = 5 from by simp [TmL.code, g3])
    have HKX := HK
    clear g3
    go_wp2_with fail
    simp only [HC.out] at HKX
    exact HKX.out _ _ _ _ _ _ _ _ _ _ _ _ _ _ _ _ _ _ _ _ _ _ _ _ _ _ _ _ _ _ _ _ _ _ _ _ _ _ _ _ _ _ _ _ _ _ _ _ _ _ _ _ _ _ _ _ _ _ _ _ _ _ _ _ _ _ _ _ _ _ _ _ _ _ _ _ _ _ _ _ _ _ _ _ _ _ _ _ _ _ _ _ _ _ _ _ (HBA.out _)
  have t3 : nm.toList.isEmpty = true := by rw [g3]; exact empty_nil
  by_cases g2 : ix = 0
  case neg =>
    have t2 : (ix == 0) = false := beq_eq_false_iff_ne.2 g2
    have HC := Lib.hid (show TmL.code ⟨3, nm, ix, ty⟩ l.length bd = 5 from by simp [TmL.code, g2])
    have HKX := HK
    clear g2
    go_wp2_with fail
    simp only [HC.out] at HKX
    exact HKX.out _ _ _ _ _ _ _ _ _ _ _ _ _ _ _ _ _ _ _ _ _ _ _ _ _ _ _ _ _ _ _ _ _ _ _ _ _ _ _ _ _ _ _ _ _ _ _ _ _ _ _ _ _ _ _ _ _ _ _ _ _ _ _ _ _ _ _ _ _ _ _ _ _ _ _ _ _ _ _ _ _ _ _ _ _ _ _ _ _ _ _ _ _ _ _ _ (HBA.out _)
  have t2 : (ix == 0) = true := by rw [g2]; rfl
  by_cases g5 : ty.fault = 0
  case neg =>
    have HC := Lib.hid (show TmL.code ⟨3, nm, ix, ty⟩ l.length bd = 12 from by simp [TmL.code, g1, g2, g3, g5])
    have HKX := HK
    have t5 : ((ty.fault : Int) != 0) = true := bne_iff_ne.2 (by omega)
    go_wp2_with fail
    (with_reducible refine (HFA.out _).mono ?_)
    rintro e w5 ⟨rfl, hw5⟩
    have HW5 := Lib.hid ((HBA.out _).trans (hw5.mono (by simp)))
    clear hw5
    have pu5 := (HW5.out.block _ pu_l).trans PU.out
    have px5 := (HW5.out.block _ px_l).trans PX.out
    have z6 := HW5.out.size
    clear pu_0 pu_1 pu_2 pu_3 pu_4 pu_5 px_0 px_1 px_2 px_3 px_4 px_5 px_6 px_7
    have pu5_0 := cv0 pu5
    have pu5_1 := cv1 pu5
    have pu5_2 := cv2 pu5
    have pu5_3 := cv3 pu5
    have pu5_4 := cv4 pu5
    have pu5_5 := cv5 pu5
    have pu5_l := lt_heap pu5
    have PU5 := Lib.hid pu5
    clear pu5
    have px5_0 := cv0 px5
    have px5_1 := cv1 px5
    have px5_2 := cv2 px5
    have px5_3 := cv3 px5
    have px5_4 := cv4 px5
    have px5_5 := cv5 px5
    have px5_6 := cv6 px5
    have px5_7 := cv7 px5
    have px5_l := lt_heap px5
    have PX5 := Lib.hid px5
    clear px5
    go_wp2_with fail
    simp only [HC.out] at HKX
    exact HKX.out _ _ _ _ _ _ _ _ _ _ _ _ _ _ _ _ _ _ _ _ _ _ _ _ _ _ _ _ _ _ _ _ _ _ _ _ _ _ _ _ _ _ _ _ _ _ _ _ _ _ _ _ _ _ _ _ _ _ _ _ _ _ _ _ _ _ _ _ _ _ _ _ _ _ _ _ _ _ _ _ _ _ _ _ _ _ _ _ _ _ _ _ _ _ _ _ HW5.out
  have HC := Lib.hid (show TmL.code ⟨3, nm, ix, ty⟩ l.length bd = 0 from by simp [TmL.code, g1, g2, g3, g5])
  have HKX := HK
  have t5 : ((ty.fault : Int) != 0) = false := by rw [g5]; rfl
  go_wp2_with fail
  (with_reducible refine (HFA.out _).mono ?_)
  rintro e w5 ⟨rfl, hw5⟩
  have HW5 := Lib.hid ((HBA.out _).trans (hw5.mono (by simp)))
  clear hw5
  have pu5 := (HW5.out.block _ pu_l).trans PU.out
  have px5 := (HW5.out.block _ px_l).trans PX.out
  have z6 := HW5.out.size
  clear pu_0 pu_1 pu_2 pu_3 pu_4 pu_5 px_0 px_1 px_2 px_3 px_4 px_5 px_6 px_7
  have pu5_0 := cv0 pu5
  have pu5_1 := cv1 pu5
  have pu5_2 := cv2 pu5
  have pu5_3 := cv3 pu5
  have pu5_4 := cv4 pu5
  have pu5_5 := cv5 pu5
  have pu5_l := lt_heap pu5
  have PU5 := Lib.hid pu5
  clear pu5
  have px5_0 := cv0 px5
  have px5_1 := cv1 px5
  have px5_2 := cv2 px5
  have px5_3 := cv3 px5
  have px5_4 := cv4 px5
  have px5_5 := cv5 px5
  have px5_6 := cv6 px5
  have px5_7 := cv7 px5
  have px5_l := lt_heap px5
  have PX5 := Lib.hid px5
  clear px5
  go_wp2_with fail
  simp only [HC.out] at HKX
  exact HKX.out _ _ _ _ _ _ _ _ _ _ _ _ _ _ _ _ _ _ _ _ _ _ _ _ _ _ _ _ _ _ _ _ _ _ _ _ _ _ _ _ _ _ _ _ _ _ _ _ _ _ _ _ _ _ _ _ _ _ _ _ _ _ _ _ _ _ _ _ _ _ _ _ _ _ _ _ _ _ _ _ _ _ _ _ _ _ _ _ _ _ _ _ _ _ _ _ HW5.out

set_option maxRecDepth 1000000 in
set_option maxHeartbeats 16000000 in
theorem node_wp4 {x0 x1 x2 x3 x4 x8 x9 x10 x11 x12 x13 x14 x15 x16 x17 x18 x19 x20 x21 x22 x23 x24 x25 x26 x27 x28 x29 x30 x31 x32 x33 x34 x35 x36 x37 x38 x39 x40 x42 x43 x44 x45 x46 x47 x48 x49 x50 x51 x52 x53 x54 x55 x56 x57 x58 x59 x60 x61 x62 x63 x64 x65 x66 x67 x68 x69 x70 x71 x72 x73 x74 x75 x76 x77 x78 x79 x80 x81 x82 x83 x84 x85 x86 x87 x88 x89 x90 x91 x92 x93 x94 x95 x96 x97 x98 x99 x100 x101 x102 x103 x104 x105 x106 x107 x108 x109 x110 x111 x112 x113 x114 x115 x116 x117 x118 x119 x120 x121 x122 x123 x124 x125 x126 x127 x128 x129 x130 x131 x132 x133 x134 x135 x136 x137 x138 x139 x140 x141 x142 x143 x144 x145 x146 x147 x148 x149 x150 x151 x152 x153 x154 x155 x156 x157 x158 x159 x160 x161 x162 x163 x164 x165 x166 x167 x168 x169 x170 x171 x172 x173 x174 x175 x176 : Value} {K : Act → World → Prop} {Q' : Exit → Act → World → Prop} {b5 b6 : Nat} {b41 : Bool} {wx : World} {S : Nat → Prop} {nm sa : ByteArray} {ix : Int} {ty : Ty} {l : List Tm} {A Aa : Option Addr} {c na ca d bd : Nat}
    (h41 : b41 = false) (hnm : nm.size ≤ maxLen) (hty : Ty.In wx S ty (.string sa) (.slice Aa na ca)) (hS : ∀ b, S b → b < wx.heap.size) (hm : l.length ≤ 9223372036854775807) (hbd : bd ≤ 1000)
    (px : wx.heap[b5]? = some (.cells #[.int .i64 4, .string nm, .int .i64 ix, .string sa, .slice Aa na ca, .slice A l.length c, .int .i64 d, .int .i64 bd] 66 (0, 0)))
    (pu : wx.heap[b6]? = some (.cells #[.int .i64 4, .string nm, .int .i64 ix, .string sa, .slice Aa na ca, .slice A l.length c] 27 (0, 0)))
    (hK : ∀ (y8 y9 y42 y43 y44 y45 y46 y47 y48 y49 y50 y51 y52 y53 y54 y55 y56 y57 y58 y59 y60 y61 y62 y63 y64 y65 y66 y67 y68 y69 y70 y71 y72 y73 y74 y75 y76 y77 y78 y79 y80 y81 y82 y83 y84 y85 y86 y87 y88 y89 y90 y91 y92 y93 y94 y95 y96 y97 y98 y99 y100 y101 y102 y103 y104 y105 y106 y107 y108 y109 y110 y111 y112 y113 y114 y115 y116 y117 y118 y119 y120 y121 y122 y123 y124 y125 y126 y127 y128 y129 y130 y131 y132 y133 y134 : Value) (wy : World), Below wx.heap.size wx wy → K ⟨#[x0, x1, x2, x3, x4, .pointer (some ⟨b5, 0, none⟩), .pointer (some ⟨b6, 0, none⟩), .int .i64 ((TmL.code ⟨4, nm, ix, ty⟩ l.length bd : Nat) : Int), y8, y9, x10, x11, x12, x13, x14, x15, x16, x17, x18, x19, x20, x21, x22, x23, x24, x25, x26, x27, x28, x29, x30, x31, x32, x33, x34, x35, x36, x37, x38, x39, x40, .bool b41, y42, y43, y44, y45, y46, y47, y48, y49, y50, y51, y52, y53, y54, y55, y56, y57, y58, y59, y60, y61, y62, y63, y64, y65, y66, y67, y68, y69, y70, y71, y72, y73, y74, y75, y76, y77, y78, y79, y80, y81, y82, y83, y84, y85, y86, y87, y88, y89, y90, y91, y92, y93, y94, y95, y96, y97, y98, y99, y100, y101, y102, y103, y104, y105, y106, y107, y108, y109, y110, y111, y112, y113, y114, y115, y116, y117, y118, y119, y120, y121, y122, y123, y124, y125, y126, y127, y128, y129, y130, y131, y132, y133, y134, x135, x136, x137, x138, x139, x140, x141, x142, x143, x144, x145, x146, x147, x148, x149, x150, x151, x152, x153, x154, x155, x156, x157, x158, x159, x160, x161, x162, x163, x164, x165, x166, x167, x168, x169, x170, x171, x172, x173, x174, x175, x176], []⟩ wy) :
    Code.wp Tryd.prog nodeIf (Exit.then K Q') ⟨#[x0, x1, x2, x3, x4, .pointer (some ⟨b5, 0, none⟩), .pointer (some ⟨b6, 0, none⟩), .int .i64 0, x8, x9, x10, x11, x12, x13, x14, x15, x16, x17, x18, x19, x20, x21, x22, x23, x24, x25, x26, x27, x28, x29, x30, x31, x32, x33, x34, x35, x36, x37, x38, x39, x40, .bool b41, x42, x43, x44, x45, x46, x47, x48, x49, x50, x51, x52, x53, x54, x55, x56, x57, x58, x59, x60, x61, x62, x63, x64, x65, x66, x67, x68, x69, x70, x71, x72, x73, x74, x75, x76, x77, x78, x79, x80, x81, x82, x83, x84, x85, x86, x87, x88, x89, x90, x91, x92, x93, x94, x95, x96, x97, x98, x99, x100, x101, x102, x103, x104, x105, x106, x107, x108, x109, x110, x111, x112, x113, x114, x115, x116, x117, x118, x119, x120, x121, x122, x123, x124, x125, x126, x127, x128, x129, x130, x131, x132, x133, x134, x135, x136, x137, x138, x139, x140, x141, x142, x143, x144, x145, x146, x147, x148, x149, x150, x151, x152, x153, x154, x155, x156, x157, x158, x159, x160, x161, x162, x163, x164, x165, x166, x167, x168, x169, x170, x171, x172, x173, x174, x175, x176], []⟩ wx := by
  subst h41
  have q3 : (0 : Int) ≤ (l.length : Int) := by omega
  have hbl := fun (o : Obj) => refBlank_any ty _ _ (wx.alloc o) S (hty.keep (fun k hk => heap_old (hS k hk) rfl))
  have hna := fun (o : Obj) => refName_any nm (wx.alloc o) hnm
  have hfa := fun (o : Obj) => refFault_any ty _ _ (wx.alloc o) S (hty.keep (fun k hk => heap_old (hS k hk) rfl)) (fun k hk => by have := hS k hk; simp; omega)
  have hba : ∀ o, Below wx.heap.size wx (wx.alloc o) := fun o => (Below.refl _ _).alloc (Nat.le_refl _) _
  have t0 := empty_nil
  clear hnm hty hS
  have HBL := Lib.hid hbl
  have HNA := Lib.hid hna
  have HFA := Lib.hid hfa
  have HBA := Lib.hid hba
  have HK := Lib.hid hK
  clear hbl hna hfa hba hK
  have px_0 := cv0 px
  have px_1 := cv1 px
  have px_2 := cv2 px
  have px_3 := cv3 px
  have px_4 := cv4 px
  have px_5 := cv5 px
  have px_6 := cv6 px
  have px_7 := cv7 px
  have px_l := lt_heap px
  have PX := Lib.hid px
  clear px
  have pu_0 := cv0 pu
  have pu_1 := cv1 pu
  have pu_2 := cv2 pu
  have pu_3 := cv3 pu
  have pu_4 := cv4 pu
  have pu_5 := cv5 pu
  have pu_l := lt_heap pu
  have PU := Lib.hid pu
  clear pu
  conv => arg 2; whnf
  by_cases g1 : l.length = 2
  case neg =>
    have t1 : ((l.length : Int) == 2) = false := beq_eq_false_iff_ne.2 (by omega)
    have HC := Lib.hid (show TmL.code ⟨4, nm, ix, ty⟩ l.length bd = 5 from by simp [TmL.code, g1])
    have HKX := HK
    clear g1
    go_wp2_with fail
    simp only [HC.out] at HKX
    exact HKX.out _ _ _ _ _ _ _ _ _ _ _ _ _ _ _ _ _ _ _ _ _ _ _ _ _ _ _ _ _ _ _ _ _ _ _ _ _ _ _ _ _ _ _ _ _ _ _ _ _ _ _ _ _ _ _ _ _ _ _ _ _ _ _ _ _ _ _ _ _ _ _ _ _ _ _ _ _ _ _ _ _ _ _ _ _ _ _ _ _ _ _ _ _ _ _ _ (HBA.out _)
  have t1 : ((l.length : Int) == 2) = true := by rw [g1]; rfl
  by_cases g3 : nm = bNil
  case neg =>
    have t3 := nonempty_of g3
    have HC := Lib.hid (show TmL.code ⟨4, nm, ix, ty⟩ l.length bd = 5 from by simp [TmL.code, g3])
    have HKX := HK
    clear g3
    go_wp2_with fail
    simp only [HC.out] at HKX
    exact HKX.out _ _ _ _ _ _ _ _ _ _ _ _ _ _ _ _ _ _ _ _ _ _ _ _ _ _ _ _ _ _ _ _ _ _ _ _ _ _ _ _ _ _ _ _ _ _ _ _ _ _ _ _ _ _ _ _ _ _ _ _ _ _ _ _ _ _ _ _ _ _ _ _ _ _ _ _ _ _ _ _ _ _ _ _ _ _ _ _ _ _ _ _ _ _ _ _ (HBA.out _)
  have t3 : nm.toList.isEmpty = true := by rw [g3]; exact empty_nil
  by_cases g2 : ix = 0
  case neg =>
    have t2 : (ix == 0) = false := beq_eq_false_iff_ne.2 g2
    have HC := Lib.hid (show TmL.code ⟨4, nm, ix, ty⟩ l.length bd = 5 from by simp [TmL.code, g2])
    have HKX := HK
    clear g2
    go_wp2_with fail
    simp only [HC.out] at HKX
    exact HKX.out _ _ _ _ _ _ _ _ _ _ _ _ _ _ _ _ _ _ _ _ _ _ _ _ _ _ _ _ _ _ _ _ _ _ _ _ _ _ _ _ _ _ _ _ _ _ _ _ _ _ _ _ _ _ _ _ _ _ _ _ _ _ _ _ _ _ _ _ _ _ _ _ _ _ _ _ _ _ _ _ _ _ _ _ _ _ _ _ _ _ _ _ _ _ _ _ (HBA.out _)
  have t2 : (ix == 0) = true := by rw [g2]; rfl
  cases g4 : ty.blank with
  | false =>
    have HC := Lib.hid (show TmL.code ⟨4, nm, ix, ty⟩ l.length bd = 5 from by simp [TmL.code, g4])
    have HKX := HK
    have G4 := Lib.hid g4
    clear g4
    go_wp2_with fail
    (with_reducible refine (HBL.out _).mono ?_)
    rw [G4.out]
    rintro e w5 ⟨rfl, hw5⟩
    have HW5 := Lib.hid ((HBA.out _).trans (hw5.mono (by simp)))
    clear hw5
    have pu5 := (HW5.out.block _ pu_l).trans PU.out
    have px5 := (HW5.out.block _ px_l).trans PX.out
    have z6 := HW5.out.size
    clear pu_0 pu_1 pu_2 pu_3 pu_4 pu_5 px_0 px_1 px_2 px_3 px_4 px_5 px_6 px_7
    have pu5_0 := cv0 pu5
    have pu5_1 := cv1 pu5
    have pu5_2 := cv2 pu5
    have pu5_3 := cv3 pu5
    have pu5_4 := cv4 pu5
    have pu5_5 := cv5 pu5
    have pu5_l := lt_heap pu5
    have PU5 := Lib.hid pu5
    clear pu5
    have px5_0 := cv0 px5
    have px5_1 := cv1 px5
    have px5_2 := cv2 px5
    have px5_3 := cv3 px5
    have px5_4 := cv4 px5
    have px5_5 := cv5 px5
    have px5_6 := cv6 px5
    have px5_7 := cv7 px5
    have px5_l := lt_heap px5
    have PX5 := Lib.hid px5
    clear px5
    go_wp2_with fail
    simp only [HC.out] at HKX
    exact HKX.out _ _ _ _ _ _ _ _ _ _ _ _ _ _ _ _ _ _ _ _ _ _ _ _ _ _ _ _ _ _ _ _ _ _ _ _ _ _ _ _ _ _ _ _ _ _ _ _ _ _ _ _ _ _ _ _ _ _ _ _ _ _ _ _ _ _ _ _ _ _ _ _ _ _ _ _ _ _ _ _ _ _ _ _ _ _ _ _ _ _ _ _ _ _ _ _ HW5.out
  | true =>
    have G4 := Lib.hid g4
    have HC := Lib.hid (show TmL.code ⟨4, nm, ix, ty⟩ l.length bd = 0 from by simp [TmL.code, g1, g2, g3, g4])
    have HKX := HK
    clear g4
    go_wp2_with fail
    (with_reducible refine (HBL.out _).mono ?_)
    rw [G4.out]
    rintro e w5 ⟨rfl, hw5⟩
    have HW5 := Lib.hid ((HBA.out _).trans (hw5.mono (by simp)))
    clear hw5
    have pu5 := (HW5.out.block _ pu_l).trans PU.out
    have px5 := (HW5.out.block _ px_l).trans PX.out
    have z6 := HW5.out.size
    clear pu_0 pu_1 pu_2 pu_3 pu_4 pu_5 px_0 px_1 px_2 px_3 px_4 px_5 px_6 px_7
    have pu5_0 := cv0 pu5
    have pu5_1 := cv1 pu5
    have pu5_2 := cv2 pu5
    have pu5_3 := cv3 pu5
    have pu5_4 := cv4 pu5
    have pu5_5 := cv5 pu5
    have pu5_l := lt_heap pu5
    have PU5 := Lib.hid pu5
    clear pu5
    have px5_0 := cv0 px5
    have px5_1 := cv1 px5
    have px5_2 := cv2 px5
    have px5_3 := cv3 px5
    have px5_4 := cv4 px5
    have px5_5 := cv5 px5
    have px5_6 := cv6 px5
    have px5_7 := cv7 px5
    have px5_l := lt_heap px5
    have PX5 := Lib.hid px5
    clear px5
    go_wp2_with fail
    simp only [HC.out] at HKX
    exact HKX.out _ _ _ _ _ _ _ _ _ _ _ _ _ _ _ _ _ _ _ _ _ _ _ _ _ _ _ _ _ _ _ _ _ _ _ _ _ _ _ _ _ _ _ _ _ _ _ _ _ _ _ _ _ _ _ _ _ _ _ _ _ _ _ _ _ _ _ _ _ _ _ _ _ _ _ _ _ _ _ _ _ _ _ _ _ _ _ _ _ _ _ _ _ _ _ _ HW5.out


def tmAtRep : Rep TmAt where
  size := 8
  R w S x cs := ∃ ks, cs = ks ++ [.int .i64 x.d, .int .i64 x.bd] ∧ tmRep.R w S x.t ks
  pos := by omega
  len := by rintro w S a cs ⟨ks, rfl, h⟩; simp [tmRep.len h]; rfl
  one := by
    rintro w S a cs ⟨ks, rfl, h⟩ u hu
    rcases List.mem_append.1 hu with hu | hu
    · exact tmRep.one h u hu
    · simp at hu; rcases hu with rfl | rfl <;> rfl
  keep := by
    rintro w w' S S' a cs ⟨ks, rfl, h⟩ hk hS
    exact ⟨ks, rfl, tmRep.keep h hk hS⟩

theorem infoTermAt : (Tryd.prog.info? 66).map (fun i => (i.zero, i.size, i.bytes)) = some (some (.agg #[.int .i64 0, .string ⟨#[]⟩, .int .i64 0, .string ⟨#[]⟩, .slice none 0 0, .slice none 0 0, .int .i64 0, .int .i64 0]), 8, 112) := by kernel_rfl

/-- The code for a node that is visited. -/
noncomputable def nodeCode (a : TmL) (m n d bd : Nat) : Nat := if 200 < n + 1 ∨ 40 < d then 1 else a.code m bd
theorem nodeCode_in {a : TmL} {m n d bd c : Nat} (h1 : ¬ 200 < n + 1) (h2 : ¬ 40 < d) (h : a.code m bd = c) : nodeCode a m n d bd = c := by
  unfold nodeCode; rw [if_neg (by omega)]; exact h

set_option maxRecDepth 100000 in
set_option maxHeartbeats 4000000 in
theorem TmL.code_len {a : TmL} {m bd : Nat} (h : a.code m bd = 0) : m ≤ 2 := by
  unfold TmL.code at h
  repeat' split at h
  all_goals first | omega | (simp at h)

set_option maxRecDepth 100000 in
set_option maxHeartbeats 4000000 in
theorem refTmFault_any (t : Tm) (cs : List Value) (w : World) (S : Nat → Prop) (ht : tmRep.R w S t cs) (hS : ∀ b, S b → b < w.heap.size) :
    Calls Tryd.prog 11 #[.agg cs.toArray] w fun e w' => e = .returned (.agg #[.int .i64 (tmFault t).1, .int .i64 (tmFault t).2]) ∧ Below w.heap.size w w' := by
  obtain ⟨s1, A1, n1, c1, B1, m1, d1, rfl, _, _⟩ := Tm.shape ht
  have HT := Lib.hid ht
  have HS := Lib.hid hS
  clear ht hS
  obtain ⟨i0, hi0, hz0, hz1, hz2⟩ := info_parts infoTermAt
  go_enter Tryd.func11, Tryd.ntmps11
  go_wp2_with fail
  go_loopg [3, 4] t.nodes (fun k v x wr => ∃ (L : List TmAt) (n : Nat), tmAtRep.Own 66 (w.heap.size + 2) wr S v L ∧ x = .int .i64 n ∧ tmStack L.reverse n = tmStack [⟨t, 1, 0⟩] 0 ∧ n ≤ 200 ∧ L.length ≤ n + 1 ∧ (∀ y ∈ L, y.d ≤ 41 ∧ y.bd ≤ y.d) ∧ stNodes L ≤ k ∧ Below w.heap.size w wr ∧
    wr.heap[w.heap.size]? = some (.cells #[.int .i64 t.lab.kind, .string t.lab.nm, .int .i64 t.lab.ix, .string s1, .slice A1 n1 c1, .slice B1 m1 d1] 27 (0, 0)) ∧ wr.heap[w.heap.size + 1]? = some (.cells #[.int .i64 0, .int .i64 0] 29 (0, 0)))
  case atStart =>
    refine ⟨[⟨t, 1, 0⟩], 0, ?_, rfl, rfl, by omega, by simp, by simp, by simp [stNodes], by go_grown, heap_old (by simp; omega) (heap_old (by simp) (heap_at rfl)), heap_old (by simp) (heap_at (by simp))⟩
    refine Rep.Own.lit (ρ := tmAtRep) (n := 1) (base := w.heap.size + 2) (w := (w.alloc (.cells #[.int .i64 t.lab.kind, .string t.lab.nm, .int .i64 t.lab.ix, .string s1, .slice A1 n1 c1, .slice B1 m1 d1] 27)).alloc (.cells #[.int .i64 0, .int .i64 0] 29)) (cs := #[.int .i64 t.lab.kind, .string t.lab.nm, .int .i64 t.lab.ix, .string s1, .slice A1 n1 c1, .slice B1 m1 d1, .int .i64 1, .int .i64 0]) rfl (by simp [maxLen]) (Rep.All.single (ρ := tmAtRep) (a := ⟨t, 1, 0⟩) ⟨_, rfl, tmRep.keep HT.out (fun k hk => heap_old (by have := HS.out k hk; simp; omega) (heap_old (HS.out k hk) rfl)) (fun _ h => h)⟩) (by simp) (fun b hb => by have := HS.out b hb; simp; omega) rfl (by simp)
  case round =>
    obtain ⟨L, n, hown, rfl, hst, hn, hL, hd, hsz, hb, p0, p1⟩ := hrel
    rcases List.eq_nil_or_concat L with rfl | ⟨L', ⟨⟨⟨kk, nm, ix, ty⟩, l⟩, d, bd⟩, hLL⟩
    ·
      obtain ⟨A, c, rfl⟩ := hown.len
      have hv0 : (tmVal t 1 0 0).1 = 0 := by
        rw [← (tmStack_one t).1, ← hst]; rfl
      obtain ⟨v, rfl, hok, _, hn200, hd40⟩ := Tv.of_val _ t (Nat.le_refl _) 1 0 0 hv0
      have hto := Lib.hid (typeOf_any v [.int .i64 v.tm.lab.kind, .string v.tm.lab.nm, .int .i64 v.tm.lab.ix, .string s1, .slice A1 n1 c1, .slice B1 m1 d1] wr S hok (by omega) (tmRep.keep HT.out (fun k hk => hb.block k (HS.out k hk)) (fun _ h => h)) (fun k hk => by have := HS.out k hk; have := hb.size; omega))
      have hfl : tmFault v.tm = if (v.typ []).isSome then (0, 0) else (12, -1) := by
        cases h : v.typ [] with
        | some s => rw [tmFault_ok hok (by omega) (by omega) h]; rfl
        | none =>
          unfold tmFault
          rw [if_neg (by rw [hv0]; simp), if_neg]
          · rfl
          · rintro ⟨v', e, h'⟩
            obtain rfl := Tv.tm_inj _ _ e
            rw [h] at h'; simp at h'
      have HFL := Lib.hid hfl
      clear hown hst hd hsz hL hn hv0 hfl hn200 hd40
      have HB := Lib.hid hb
      have HTO := Lib.hid hto
      have HOK := Lib.hid hok
      clear hb hto hok
      have p0_0 := cv0 p0
      have p0_1 := cv1 p0
      have p0_2 := cv2 p0
      have p0_3 := cv3 p0
      have p0_4 := cv4 p0
      have p0_5 := cv5 p0
      have p0_l := lt_heap p0
      have P0 := Lib.hid p0
      clear p0
      have p1_0 := cv0 p1
      have p1_1 := cv1 p1
      have p1_l := lt_heap p1
      have P1 := Lib.hid p1
      clear p1
      go_wp2_with fail
      (with_reducible refine HTO.out.out.mono ?_)
      rintro e w5 ⟨v0, v1, rfl, hsm, hnn, hw5⟩
      obtain ⟨sT, AT, nT, cT, rfl, rfl⟩ : ∃ s A n c, v0 = .string s ∧ v1 = .slice A n c := by
        cases h : v.typ [] with
        | some s => exact (hsm s h).shape
        | none => exact ⟨_, _, _, _, (hnn h).1, (hnn h).2⟩
      clear hsm hnn
      have p1 := (hw5.block _ (by have := HB.out.size; omega)).trans P1.out
      have hb5 := HB.out.trans (hw5.mono HB.out.size)
      clear p0_0 p0_1 p0_2 p0_3 p0_4 p0_5 p0_l p1_0 p1_1 p1_l
      have HB5 := Lib.hid hb5
      have HW5 := Lib.hid hw5
      clear hb5 hw5
      have p1_0 := cv0 p1
      have p1_1 := cv1 p1
      have p1_f0 := free_heap p1 0
      have p1_f1 := free_heap p1 1
      have p1_l := lt_heap p1
      have P1 := Lib.hid p1
      clear p1
      cases hs : (v.typ []).isSome with
      | true =>
        have HTT := Lib.hid hs
        clear hs
        go_wp2_with fail
        refine bodyPost_ret (v := .agg #[.int .i64 0, .int .i64 0]) (by simp [results, Tryd.results11, go_sem, p1_0, p1_1, p1_l]) rfl ?_
        exact ⟨by rw [HFL.out, HTT.out]; rfl, (below2 HB5.out (by omega)).alloc (le2 HB5.out.size) _⟩
      | false =>
        have HTT := Lib.hid hs
        clear hs
        go_wp2_with fail
        refine bodyPost_ret (v := .agg #[.int .i64 12, .int .i64 (-1)]) (by simp [results, Tryd.results11, go_sem, p1_0, p1_1, p1_l]) rfl ?_
        exact ⟨by rw [HFL.out, HTT.out]; rfl, (below2 HB5.out (by omega)).alloc (le2 HB5.out.size) _⟩
    · rw [List.concat_eq_append] at hLL
      subst hLL
      obtain ⟨g, cap, cs, rfl, hcap, hg, hgl, ⟨ks, rfl, hks⟩, hcell, hfr, hown⟩ := hown.pop rfl
      obtain ⟨u0, u1, vs, rfl, hnm, hty, hl⟩ := Tm.open_ hks
      obtain ⟨sa, Aa, na, ca, rfl, rfl⟩ := hty.shape
      have HL := Lib.hid hl
      obtain ⟨A, m, c, rfl, hlm, hm, _⟩ := hl
      subst hlm
      unfold maxLen at hm
      have f0 : wr.cell? ⟨g, L'.length * 8, none⟩ = some (.int .i64 kk) := hcell 0 _ rfl
      have f1 : wr.cell? ⟨g, L'.length * 8 + 1, none⟩ = some (.string nm) := hcell 1 _ rfl
      have f2 : wr.cell? ⟨g, L'.length * 8 + 2, none⟩ = some (.int .i64 ix) := hcell 2 _ rfl
      have f3 : wr.cell? ⟨g, L'.length * 8 + 3, none⟩ = some (.string sa) := hcell 3 _ rfl
      have f4 : wr.cell? ⟨g, L'.length * 8 + 4, none⟩ = some (.slice Aa na ca) := hcell 4 _ rfl
      have f5 : wr.cell? ⟨g, L'.length * 8 + 5, none⟩ = some (.slice A l.length c) := hcell 5 _ rfl
      have f6 : wr.cell? ⟨g, L'.length * 8 + 6, none⟩ = some (.int .i64 d) := hcell 6 _ rfl
      have f7 : wr.cell? ⟨g, L'.length * 8 + 7, none⟩ = some (.int .i64 bd) := hcell 7 _ rfl
      have hd41 : d ≤ 41 := (hd ⟨.mk ⟨kk, nm, ix, ty⟩ l, d, bd⟩ (by simp)).1
      have hbd : bd ≤ d := (hd ⟨.mk ⟨kk, nm, ix, ty⟩ l, d, bd⟩ (by simp)).2
      have hLl : L'.length ≤ 200 := by simp at hL; omega
      have q0 : (0 : Int) ≤ (L'.length : Int) := by omega
      have q1 : (L'.length : Int) ≤ (cap : Int) := by omega
      have q2 : ((L'.length + 1 : Nat) : Int) - 1 = (L'.length : Int) := by omega
      have q3 : (0 : Int) ≤ (l.length : Int) := by omega
      rw [List.reverse_append, List.reverse_singleton, List.singleton_append, tmStack_step] at hst
      simp only at hnm hty
      have hLn : L'.length ≤ n := by simp at hL; omega
      clear hcell hks hL
      have HOWN := Lib.hid hown
      have HST := Lib.hid hst
      have HD := Lib.hid hd
      have HSZ := Lib.hid hsz
      have HB := Lib.hid hb
      have HFR := Lib.hid hfr
      have HNM := Lib.hid hnm
      have HTY := Lib.hid hty
      clear hown hst hd hsz hb hfr hnm hty
      have p0_0 := cv0 p0
      have p0_1 := cv1 p0
      have p0_2 := cv2 p0
      have p0_3 := cv3 p0
      have p0_4 := cv4 p0
      have p0_5 := cv5 p0
      have p0_l := lt_heap p0
      have P0 := Lib.hid p0
      clear p0
      have p1_0 := cv0 p1
      have p1_1 := cv1 p1
      have p1_f0 := free_heap p1 0
      have p1_f1 := free_heap p1 1
      have p1_l := lt_heap p1
      have P1 := Lib.hid p1
      clear p1
      go_upto_region 9 with (fail)
      refine gen_last (fun wx => wx.heap[wr.heap.size]? = some (.cells #[.int .i64 kk, .string nm, .int .i64 ix, .string sa, .slice Aa na ca, .slice A l.length c, .int .i64 d, .int .i64 bd] 66 (0, 0)) ∧ wx.heap[wr.heap.size + 1]? = some (.cells #[.int .i64 kk, .string nm, .int .i64 ix, .string sa, .slice Aa na ca, .slice A l.length c] 27 (0, 0)) ∧ Below wr.heap.size wr wx ∧ wr.heap.size + 2 ≤ wx.heap.size) ?_ ?_
      · exact ⟨heap_old (by simp) (heap_at rfl), heap_at (by simp), ((Below.refl _ _).alloc (Nat.le_refl _) _).alloc (by simp) _, by simp⟩
      rintro wx ⟨px, pu, hbx, zx⟩
      have zr := HB.out.size
      have hbw : Below w.heap.size w wx := HB.out.trans (hbx.mono zr)
      have hSx : ∀ k, S k → wx.heap[k]? = w.heap[k]? := fun k hk => hbw.block k (HS.out k hk)
      have htx := HTY.out.keep (fun k hk => hbx.block k (by have := HS.out k hk; omega))
      have p0 := (hbx.block _ (by omega)).trans P0.out
      have p1 := (hbx.block _ (by omega)).trans P1.out
      have lgx : g < wx.heap.size := by omega
      clear f0 f1 f2 f3 f4 f5 f6 f7 p0_0 p0_1 p0_2 p0_3 p0_4 p0_5 p0_l p1_0 p1_1 p1_f0 p1_f1 p1_l
      have hret : ∀ cd : Nat, cd ≠ 0 → tmStack [⟨t, 1, 0⟩] 0 = (cd, n) → tmFault t = (cd, (n : Int)) := fun cd h0 h => by
        have h1 := (tmStack_one t).1
        have h2 := (tmStack_one t).2
        rw [h] at h1 h2
        unfold tmFault
        rw [if_pos (by rw [← h1]; exact h0), ← h1, ← h2 (by rw [← h1]; exact h0)]
      have HBX := Lib.hid hbx
      have HBW := Lib.hid hbw
      have HSX := Lib.hid hSx
      have HTX := Lib.hid htx
      have HRET := Lib.hid hret
      clear hbx hbw hSx htx hret
      have px_0 := cv0 px
      have px_1 := cv1 px
      have px_2 := cv2 px
      have px_3 := cv3 px
      have px_4 := cv4 px
      have px_5 := cv5 px
      have px_6 := cv6 px
      have px_7 := cv7 px
      have px_l := lt_heap px
      have PX := Lib.hid px
      clear px
      have pu_0 := cv0 pu
      have pu_1 := cv1 pu
      have pu_2 := cv2 pu
      have pu_3 := cv3 pu
      have pu_4 := cv4 pu
      have pu_5 := cv5 pu
      have pu_l := lt_heap pu
      have PU := Lib.hid pu
      clear pu
      have p0_0 := cv0 p0
      have p0_1 := cv1 p0
      have p0_2 := cv2 p0
      have p0_3 := cv3 p0
      have p0_4 := cv4 p0
      have p0_5 := cv5 p0
      have p0_l := lt_heap p0
      have P0 := Lib.hid p0
      clear p0
      have p1_0 := cv0 p1
      have p1_1 := cv1 p1
      have p1_f0 := free_heap p1 0
      have p1_f1 := free_heap p1 1
      have p1_l := lt_heap p1
      have P1 := Lib.hid p1
      clear p1
      by_cases hn1 : 200 < n + 1
      ·
        have HE := Lib.hid (HRET.out 1 (by decide) (by rw [← HST.out, if_pos (Or.inl hn1)]))
        go_wp2_with fail
        refine bodyPost_ret (v := .agg #[.int .i64 1, .int .i64 n]) (by simp [results, Tryd.results11, go_sem, p1_0, p1_1, p1_l]) rfl ?_
        exact ⟨by rw [HE.out]; rfl, below2 HBW.out (by omega)⟩
      by_cases hd1 : 40 < d
      ·
        have HE := Lib.hid (HRET.out 1 (by decide) (by rw [← HST.out, if_pos (Or.inr hd1)]))
        go_wp2_with fail
        refine bodyPost_ret (v := .agg #[.int .i64 1, .int .i64 n]) (by simp [results, Tryd.results11, go_sem, p1_0, p1_1, p1_l]) rfl ?_
        exact ⟨by rw [HE.out]; rfl, below2 HBW.out (by omega)⟩
      have HST := Lib.hid (HST.out.symm.trans (if_neg (show ¬ (200 < n + 1 ∨ 40 < d) by omega)))
      go_upto_if 41 with (fail)
      go_cut [7] (fun s7 wy => s7 = .int .i64 (TmL.code ⟨kk, nm, ix, ty⟩ l.length bd : Nat) ∧ Below wx.heap.size wx wy)
      case first =>
        by_cases h1 : kk = 1
        · subst h1
          refine node_wp1 (S := S) (by simp <;> omega) HNM.out HTX.out (fun k hk => by have := HS.out k hk; omega) (by omega) (by omega) PX.out PU.out ?_
          intros
          rename_i hb
          dsimp only
          go_wp2_with fail
          go_meet
          exact ⟨rfl, hb⟩
        by_cases h2 : kk = 2
        · subst h2
          refine node_wp2 (S := S) (by simp <;> omega) HNM.out HTX.out (fun k hk => by have := HS.out k hk; omega) (by omega) (by omega) PX.out PU.out ?_
          intros
          rename_i hb
          dsimp only
          go_wp2_with fail
          go_meet
          exact ⟨rfl, hb⟩
        by_cases h3 : kk = 3
        · subst h3
          refine node_wp3 (S := S) (by simp <;> omega) HNM.out HTX.out (fun k hk => by have := HS.out k hk; omega) (by omega) (by omega) PX.out PU.out ?_
          intros
          rename_i hb
          dsimp only
          go_wp2_with fail
          go_meet
          exact ⟨rfl, hb⟩
        by_cases h4 : kk = 4
        · subst h4
          refine node_wp4 (S := S) (by simp <;> omega) HNM.out HTX.out (fun k hk => by have := HS.out k hk; omega) (by omega) (by omega) PX.out PU.out ?_
          intros
          rename_i hb
          dsimp only
          go_wp2_with fail
          go_meet
          exact ⟨rfl, hb⟩
        refine node_wp0 (S := S) h1 h2 h3 h4 (by simp <;> omega) HNM.out HTX.out (fun k hk => by have := HS.out k hk; omega) (by omega) (by omega) PX.out PU.out ?_
        intros
        rename_i hb
        dsimp only
        go_wp2_with fail
        go_meet
        exact ⟨rfl, hb⟩
      case rest =>
        obtain ⟨rfl, hby⟩ := hcut
        rename World => wy
        have zy := hby.size
        have px := (hby.block _ px_l).trans PX.out
        have pu := (hby.block _ pu_l).trans PU.out
        have p0 := (hby.block _ p0_l).trans P0.out
        have p1 := (hby.block _ p1_l).trans P1.out
        have hbwy : Below w.heap.size w wy := HBW.out.trans (hby.mono (by omega))
        have hSy : ∀ k, S k → wy.heap[k]? = w.heap[k]? := fun k hk => hbwy.block k (HS.out k hk)
        clear px_0 px_1 px_2 px_3 px_4 px_5 px_6 px_7 px_l pu_0 pu_1 pu_2 pu_3 pu_4 pu_5 pu_l p0_0 p0_1 p0_2 p0_3 p0_4 p0_5 p0_l p1_0 p1_1 p1_f0 p1_f1 p1_l
        have HBWY := Lib.hid hbwy
        have HSY := Lib.hid hSy
        have HBY := Lib.hid hby
        clear hbwy hSy hby
        by_cases hc0 : TmL.code ⟨kk, nm, ix, ty⟩ l.length bd = 0
        case neg =>
          have HE := Lib.hid (HRET.out _ hc0 (HST.out.trans (if_neg hc0)))
          have t1 : ((TmL.code ⟨kk, nm, ix, ty⟩ l.length bd : Int) != 0) = true := bne_iff_ne.2 (by omega)
          generalize TmL.code ⟨kk, nm, ix, ty⟩ l.length bd = cd at *
          have px_0 := cv0 px
          have px_1 := cv1 px
          have px_2 := cv2 px
          have px_3 := cv3 px
          have px_4 := cv4 px
          have px_5 := cv5 px
          have px_6 := cv6 px
          have px_7 := cv7 px
          have px_l := lt_heap px
          have PX := Lib.hid px
          clear px
          have pu_0 := cv0 pu
          have pu_1 := cv1 pu
          have pu_2 := cv2 pu
          have pu_3 := cv3 pu
          have pu_4 := cv4 pu
          have pu_5 := cv5 pu
          have pu_l := lt_heap pu
          have PU := Lib.hid pu
          clear pu
          have p0_0 := cv0 p0
          have p0_1 := cv1 p0
          have p0_2 := cv2 p0
          have p0_3 := cv3 p0
          have p0_4 := cv4 p0
          have p0_5 := cv5 p0
          have p0_l := lt_heap p0
          have P0 := Lib.hid p0
          clear p0
          have p1_0 := cv0 p1
          have p1_1 := cv1 p1
          have p1_f0 := free_heap p1 0
          have p1_f1 := free_heap p1 1
          have p1_l := lt_heap p1
          have P1 := Lib.hid p1
          clear p1
          go_wp2_with fail
          refine bodyPost_ret (v := .agg #[.int .i64 cd, .int .i64 n]) (by simp [results, Tryd.results11, go_sem, p1_0, p1_1, p1_l]) rfl ?_
          exact ⟨by rw [HE.out], below2 HBWY.out (by omega)⟩
        have hl2 : l.length ≤ 2 := TmL.code_len hc0
        have HST := Lib.hid ((HST.out.trans (if_pos hc0)).symm)
        rw [hc0]
        obtain ⟨bo, hbo, hbo2, hbo3⟩ : ∃ bo : Nat, bo = TmL.under ⟨kk, nm, ix, ty⟩ bd ∧ bo ≤ bd + 1 ∧ (((kk == 3) = true ∧ (bo : Int) = bd + 1) ∨ ((kk == 3) = false ∧ bo = bd)) := by
          refine ⟨_, rfl, ?_, ?_⟩
          · unfold TmL.under; split <;> omega
          · unfold TmL.under
            by_cases h : kk = 3
            · exact Or.inl ⟨by rw [h]; rfl, by simp [h]⟩
            · exact Or.inr ⟨beq_eq_false_iff_ne.2 h, by simp [h]⟩
        have HBO := Lib.hid hbo
        clear hbo hc0
        have px_0 := cv0 px
        have px_1 := cv1 px
        have px_2 := cv2 px
        have px_3 := cv3 px
        have px_4 := cv4 px
        have px_5 := cv5 px
        have px_6 := cv6 px
        have px_7 := cv7 px
        have px_l := lt_heap px
        have PX := Lib.hid px
        clear px
        have pu_0 := cv0 pu
        have pu_1 := cv1 pu
        have pu_2 := cv2 pu
        have pu_3 := cv3 pu
        have pu_4 := cv4 pu
        have pu_5 := cv5 pu
        have pu_l := lt_heap pu
        have PU := Lib.hid pu
        clear pu
        have hw1 : IntKind.i64.wrap ((bd : Int) + 1) = (bd : Int) + 1 := wrap_small _ (by omega) (by omega)
        go_upto_if 144 with (fail)
        go_cut [10] (fun s10 wz => s10 = .int .i64 (bo : Nat) ∧ wy = wz)
        case first =>
          rcases hbo3 with ⟨h1, h2⟩ | ⟨h1, h2⟩
          · go_wp2_with fail
            go_meet
            exact ⟨by rw [h2], rfl⟩
          · go_wp2_with fail
            go_meet
            exact ⟨by rw [h2], rfl⟩
        case rest =>
          obtain ⟨rfl, rfl⟩ := hcut
          clear hbo3
          have HPX := Lib.hid PX.out
          have HL2 := Lib.hid hl2
          clear hl2
          go_wp2_with fail
          go_loopg [3, 11] l.length (fun m v3 v11 wz => v11 = .int .i64 ((m : Int) - 1) ∧ m ≤ l.length ∧ tmAtRep.Own 66 (w.heap.size + 2) wz S v3 (L' ++ (l.drop m).reverse.map (fun u => ⟨u, d + 1, bo⟩)) ∧ (∀ k, v3.ownBlock = some k → k = g ∨ wy.heap.size ≤ k) ∧ wy.grownBy wz (some g))
          case atStart =>
            refine ⟨rfl, Nat.le_refl _, ?_, fun k e => Or.inl (by simp only [Value.ownBlock, Option.some.injEq] at e; exact e.symm), ⟨rfl, rfl, rfl, Nat.le_refl _, fun _ _ _ => rfl⟩⟩
            simp only [List.drop_length, List.reverse_nil, List.map_nil, List.append_nil]
            exact HOWN.out.keepG (fun k e => by simp only [Value.ownBlock, Option.some.injEq] at e; subst e; exact (HBY.out.block g lgx).trans (HBX.out.block g hgl)) (fun b hb => (HBY.out.block b (by have := HS.out b hb; omega)).trans (HBX.out.block b (by have := HS.out b hb; omega)))
          case round =>
            rename World => wz
            obtain ⟨rfl, hml, hown3, hblk3, hgr⟩ := hrel
            have zz := hgr.size
            have hkz : ∀ k, k < wy.heap.size → k ≠ g → wz.heap[k]? = wy.heap[k]? := fun k h1 h2 => hgr.block k h1 (fun e => by simp only [Option.some.injEq] at e; exact h2 e)
            have px := (hkz _ (by omega) (by omega)).trans PX.out
            have pu := (hkz _ (by omega) (by omega)).trans PU.out
            have p0z := (hkz w.heap.size (by omega) (by omega)).trans p0
            have p1z := (hkz (w.heap.size + 1) (by omega) (by omega)).trans p1
            have hbz : Below w.heap.size w wz := HBWY.out.trans ⟨hgr.os, hgr.tape, hgr.output, hgr.size, fun k hk => hkz k (by omega) (by omega)⟩
            have hSwz : ∀ k, S k → wz.heap[k]? = w.heap[k]? := fun k hk => hbz.block k (HS.out k hk)
            clear p0 p1
            have P0Z := Lib.hid p0z
            have P1Z := Lib.hid p1z
            clear p0z p1z
            obtain ⟨A3, k3, e3⟩ := hown3.len
            have hlen3 : (L' ++ (l.drop gk).reverse.map (fun u => (⟨u, d + 1, bo⟩ : TmAt))).length = L'.length + (l.length - gk) := by simp
            rw [hlen3] at e3
            subst e3
            cases gk with
            | zero =>
              have e0 : ((0 : Nat) : Int) - 1 = -1 := rfl
              rw [e0]
              have HOWN3 := Lib.hid hown3
              have HBLK3 := Lib.hid hblk3
              have HGR := Lib.hid hgr
              have HKZ := Lib.hid hkz
              have HBZ := Lib.hid hbz
              have HSWZ := Lib.hid hSwz
              clear hown3 hblk3 hgr hkz hbz hSwz
              have px_0 := cv0 px
              have px_1 := cv1 px
              have px_2 := cv2 px
              have px_3 := cv3 px
              have px_4 := cv4 px
              have px_5 := cv5 px
              have px_6 := cv6 px
              have px_7 := cv7 px
              have px_l := lt_heap px
              have PX := Lib.hid px
              clear px
              have pu_0 := cv0 pu
              have pu_1 := cv1 pu
              have pu_2 := cv2 pu
              have pu_3 := cv3 pu
              have pu_4 := cv4 pu
              have pu_5 := cv5 pu
              have pu_l := lt_heap pu
              have PU := Lib.hid pu
              clear pu
              go_wp2_with fail
              go_roundg (stNodes (L' ++ l.reverse.map (fun u => (⟨u, d + 1, bo⟩ : TmAt))))
              case measure =>
                have := HSZ.out
                have := stNodes_pop L' ⟨kk, nm, ix, ty⟩ l d bd (d + 1) bo
                omega
              case rel =>
                refine ⟨L' ++ l.reverse.map (fun u => ⟨u, d + 1, bo⟩), n + 1, ?_, by go_num, ?_, by omega, by simp; have := HL2.out; omega, ?_, Nat.le_refl _, HBZ.out, P0Z.out, P1Z.out⟩
                · have := HOWN3.out
                  simp only [List.drop_zero, Nat.sub_zero] at this
                  exact this
                · rw [← HST.out, ← HBO.out]
                  simp
                · intro y hy
                  rcases List.mem_append.1 hy with hy | hy
                  · exact HD.out y (by simp [hy])
                  · simp only [List.mem_map, List.mem_reverse] at hy
                    obtain ⟨u, _, rfl⟩ := hy
                    exact ⟨by show d + 1 ≤ 41; omega, by show bo ≤ d + 1; omega⟩
            | succ i =>
              have e6 : ((i + 1 : Nat) : Int) - 1 = (i : Int) := by omega
              rw [e6]
              have hil : i < l.length := by omega
              obtain ⟨b, o, kc, rfl, hSb, hkr, hkc⟩ := Rep.Sl.at_ HL.out (List.getElem?_eq_getElem hil)
              obtain ⟨s9, A9, n9, c9, B9, m9, d9, rfl, _, _⟩ := Tm.shape hkr
              obtain ⟨m3, hm3⟩ : ∃ m3, m3 = L'.length + (l.length - (i + 1)) := ⟨_, rfl⟩
              rw [← hm3] at hown3 hlen3 hblk3 ⊢
              have hm3b : m3 ≤ 300 := by have := HL2.out; omega
              have hbw3 := HS.out b hSb
              have hkb := hSwz b hSb
              have hkbz : wz.heap[b]? = wr.heap[b]? := hkb.trans (HB.out.block b hbw3).symm
              have e0 : wz.cell? ⟨b, o + i * 6, none⟩ = _ := (cell_keep hkbz _).trans (hkc 0 _ rfl)
              have e1 : wz.cell? ⟨b, o + i * 6 + 1, none⟩ = _ := (cell_keep hkbz _).trans (hkc 1 _ rfl)
              have e2 : wz.cell? ⟨b, o + i * 6 + 2, none⟩ = _ := (cell_keep hkbz _).trans (hkc 2 _ rfl)
              have e3 : wz.cell? ⟨b, o + i * 6 + 3, none⟩ = _ := (cell_keep hkbz _).trans (hkc 3 _ rfl)
              have e4 : wz.cell? ⟨b, o + i * 6 + 4, none⟩ = _ := (cell_keep hkbz _).trans (hkc 4 _ rfl)
              have e5 : wz.cell? ⟨b, o + i * 6 + 5, none⟩ = _ := (cell_keep hkbz _).trans (hkc 5 _ rfl)
              have lbz : b < wz.heap.size := by omega
              have p4 : (0 : Int) ≤ (i : Int) := by omega
              have p5 : (i : Int) < (l.length : Int) := by omega
              obtain ⟨ys, hrow3, hall3⟩ := id hown3
              rw [hlen3] at hrow3
              have hb3 := hown3.block
              have hx1 : (Value.slice A3 m3 k3).ownBlock ≠ some (wr.heap.size + 1) := fun e => by have := hblk3 _ e; omega
              have hx2 : (Value.slice A3 m3 k3).ownBlock ≠ some wr.heap.size := fun e => by have := hblk3 _ e; omega
              have hx3 : (Value.slice A3 m3 k3).ownBlock ≠ some b := fun e => by have := hb3 _ e; omega
              have HM3 := Lib.hid hm3
              clear hm3
              have HOWN3 := Lib.hid hown3
              have HBLK3 := Lib.hid hblk3
              have HGR := Lib.hid hgr
              have HKZ := Lib.hid hkz
              have HBZ := Lib.hid hbz
              have HSWZ := Lib.hid hSwz
              have HKR := Lib.hid hkr
              have HKC := Lib.hid hkc
              have HKB := Lib.hid hkb
              have HKBZ := Lib.hid hkbz
              have HROW3 := Lib.hid hrow3
              have HALL3 := Lib.hid hall3
              have HLEN3 := Lib.hid hlen3
              have HB3 := Lib.hid hb3
              clear hown3 hblk3 hgr hkz hbz hSwz hkr hkc hkb hkbz hrow3 hall3 hlen3 hb3
              have px_0 := cv0 px
              have px_1 := cv1 px
              have px_2 := cv2 px
              have px_3 := cv3 px
              have px_4 := cv4 px
              have px_5 := cv5 px
              have px_6 := cv6 px
              have px_7 := cv7 px
              have px_l := lt_heap px
              have PX := Lib.hid px
              clear px
              have pu_0 := cv0 pu
              have pu_1 := cv1 pu
              have pu_2 := cv2 pu
              have pu_3 := cv3 pu
              have pu_4 := cv4 pu
              have pu_5 := cv5 pu
              have pu_l := lt_heap pu
              have PU := Lib.hid pu
              clear pu
              have hwd : IntKind.i64.wrap ((d : Int) + 1) = (d : Int) + 1 := wrap_small _ (by omega) (by omega)
              go_wp2_with fail
              go_region_held_law (fun w' => w'.cell? ⟨wr.heap.size + 1, 5, none⟩ = some (.slice (some ⟨b, o, none⟩) l.length c) ∧ w'.cell? ⟨wr.heap.size, 6, none⟩ = some (.int .i64 d) ∧ w'.cell? ⟨b, o + i * 6, none⟩ = some (.int .i64 l[i].lab.kind) ∧ w'.cell? ⟨b, o + i * 6 + 1, none⟩ = some (.string l[i].lab.nm) ∧ w'.cell? ⟨b, o + i * 6 + 2, none⟩ = some (.int .i64 l[i].lab.ix) ∧ w'.cell? ⟨b, o + i * 6 + 3, none⟩ = some (.string s9) ∧ w'.cell? ⟨b, o + i * 6 + 4, none⟩ = some (.slice A9 n9 c9) ∧ w'.cell? ⟨b, o + i * 6 + 5, none⟩ = some (.slice B9 m9 d9))
                ((first | (go_keep; done) | (go_split_ands; (repeat' apply And.intro) <;> (refine (kc _ _ (by omega) (by assumption)).trans ?_; assumption))))
                ((refine step_append_lies _ (by rfl) (.tmp 155) (.tmp 166) _ (by rfl) (w.heap.size + 2) 66 i0 _ 8 112 Tryd.underlying67 hi0 hz0 hz1 hz2 rfl (by omega) (.slice A3 m3 k3) m3 ys (by rfl) (HROW3.out.alloc _).drew ⟨wz.heap.size, 0, none⟩ 1 1 ([.int .i64 l[i].lab.kind, .string l[i].lab.nm, .int .i64 l[i].lab.ix, .string s9, .slice A9 n9 c9, .slice B9 m9 d9] ++ [.int .i64 ((d : Int) + 1), .int .i64 bo]) (by rfl) (by rfl) (World.news_of_block (cs := #[.int .i64 l[i].lab.kind, .string l[i].lab.nm, .int .i64 l[i].lab.ix, .string s9, .slice A9 n9 c9, .slice B9 m9 d9, .int .i64 ((d : Int) + 1), .int .i64 bo]) (t := 66) (fr := (0, 0)) (heap_at rfl)) (by simp [Value.oneCell']) (by omega) (by unfold maxLen; omega) (by omega) (by simp; omega) (wz.heap.size + 1) (by simp) ?_; intro gg cap' w3 hown4 hgrow hat hlt; have kc : ∀ k q, k < wz.heap.size → (Value.slice A3 m3 k3).ownBlock ≠ some k → w3.cell? ⟨k, q, none⟩ = ((wz.alloc (.cells #[.int .i64 l[i].lab.kind, .string l[i].lab.nm, .int .i64 l[i].lab.ix, .string s9, .slice A9 n9 c9, .slice B9 m9 d9, .int .i64 ((d : Int) + 1), .int .i64 bo] 66)).drew).cell? ⟨k, q, none⟩ := fun k q h1 h2 => cell_keep (hgrow.block k (by simp; omega) (fun e => h2 e.symm)) q))
              have z3 : wz.heap.size + 1 ≤ w3.heap.size := by have := hgrow.size; simpa using this
              simp only [List.getElem_toArray, List.getElem_cons_succ, List.getElem_cons_zero, List.setIfInBounds_toArray, List.set_cons_succ, List.set_cons_zero]
              have HOWN4 := Lib.hid hown4
              have HGROW := Lib.hid hgrow
              have HAT := Lib.hid hat
              clear hown4 hgrow hat
              clear kc
              go_wp2_with fail
              go_roundg i
              case measure => omega
              case rel =>
                have hlow : ∀ k, S k → k < wz.heap.size := fun k hk => by have := HS.out k hk; omega
                have hkk : ∀ k, k < wz.heap.size → ((wz.alloc (.cells #[.int .i64 l[i].lab.kind, .string l[i].lab.nm, .int .i64 l[i].lab.ix, .string s9, .slice A9 n9 c9, .slice B9 m9 d9, .int .i64 ((d : Int) + 1), .int .i64 bo] 66)).drew).heap[k]? = wz.heap[k]? := fun k hk => heap_drew (heap_old hk rfl)
                have hg3 : wy.grownBy w3 (some g) := by
                  have h1 := HGROW.out
                  refine ⟨h1.os.trans HGR.out.os, h1.tape.trans HGR.out.tape, h1.output.trans HGR.out.output, by omega, fun k h2 h3 => ?_⟩
                  have h4 : k ≠ g := fun e => h3 (by rw [e])
                  exact (h1.block k (by simp; omega) (fun e => by have := HBLK3.out k e.symm; omega)).trans ((hkk k (by omega)).trans (HGR.out.block k h2 h3))
                refine ⟨rfl, by omega, ?_, fun k e => ?_, hg3⟩
                · have hap := Rep.appended1 (ρ := tmAtRep) (H := wz.heap.size + 1) (S := S) (T := S) (a := ⟨l[i], d + 1, bo⟩) (HALL3.out.keep (fun k hk => hkk k (hlow k hk.1)) (fun _ h => h)) (news := [.int .i64 l[i].lab.kind, .string l[i].lab.nm, .int .i64 l[i].lab.ix, .string s9, .slice A9 n9 c9, .slice B9 m9 d9] ++ [.int .i64 ((d : Int) + 1), .int .i64 bo])
                    ⟨_, by simp, tmRep.keep HKR.out (fun k hk => (hkk k (hlow k hk)).trans ((HSWZ.out k hk).trans (HB.out.block k (HS.out k hk)).symm)) (fun _ h => h)⟩ (fun k hk => ⟨hk, fun e => by have := HB3.out k e; have := HS.out k hk; omega⟩) (fun k hk => by have := hlow k hk; simp; omega) (by rw [HLEN3.out]; exact HOWN4.out) HGROW.out HAT.out (by simp)
                  rw [HLEN3.out] at hap
                  have e7 : (l.drop i).reverse.map (fun u => (⟨u, d + 1, bo⟩ : TmAt)) = (l.drop (i + 1)).reverse.map (fun u => ⟨u, d + 1, bo⟩) ++ [⟨l[i], d + 1, bo⟩] := by
                    rw [List.drop_eq_getElem_cons hil, List.reverse_cons, List.map_append]; rfl
                  rw [e7, ← List.append_assoc]
                  exact hap
                · simp only [Value.ownBlock, Option.some.injEq] at e
                  rcases HAT.out with h | h
                  · exact HBLK3.out k (by rw [h, e])
                  · exact Or.inr (by omega)

end Go.Proofs.YtnoceodmnjhljaaDoor
