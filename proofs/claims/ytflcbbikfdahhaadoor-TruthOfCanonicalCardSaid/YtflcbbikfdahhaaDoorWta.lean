/-
  What the proof of truthOfCanonical_holds leans on.
-/
import Derived.Test.YtflcbbikfdahhaaDoorMdAt
import Derived.Test.YtflcbbikfdahhaaDoorProg
import Derived.Test.YtflcbbikfdahhaaDoorSets
import Derived.Test.YtflcbbikfdahhaaDoorTree
import Derived.Test.YtflcbbikfdahhaaDoorCkA
import Derived.Test.YtflcbbikfdahhaaDoorCmpR
import Derived.Test.YtflcbbikfdahhaaDoorName
import Derived.Test.YtflcbbikfdahhaaDoorVlA
import Derived.Test.YtflcbbikfdahhaaDoorFlt1
import Derived.Test.YtflcbbikfdahhaaDoorFmCon
import Derived.Deep.DeepCutAuto
import Derived.Deep.RegionLaw
import Derived.Deep.RegionHeld3
import Derived.Deep.RegionLawGrows
import Derived.Deep.AppendLies
import Derived.ArgAppend
namespace Go.Proofs.YtflcbbikfdahhaaDoor

section
open Go Go.RowKit
set_option linter.unusedSimpArgs false
set_option linter.unusedVariables false
def mdSmall : Md := ⟨1, [⟨⟨#[107, 105, 109]⟩, 0⟩], [⟨⟨#[100, 111, 103]⟩, 1, [[0]]⟩]⟩
theorem mdSmall_ok : mdFault mdSmall = (0, 0) := by decide +kernel
/-- A row of one thing in a block of its own. -/
theorem sl_lit {α : Type} {ρ : Rep α} {W : World} {S : Nat → Prop} {x : α} {ds : List Value} {blk : Nat} {T : TypeId} {fr : Nat × Nat} (hx : ρ.R W S x ds) (hb : W.heap[blk]? = some (.cells ds.toArray T fr)) (hS : S blk) :
    ρ.Sl W S (.slice (some ⟨blk, 0, none⟩) 1 1) [x] :=
  ⟨_, 1, 1, rfl, rfl, by simp [maxLen], fun _ => ⟨blk, 0, ds, rfl, hS, Rep.All.single hx, fun j u hj => by rw [Nat.zero_add]; exact cell_heap hb (by simpa using hj)⟩⟩
/-- What is new. -/
def FrS (w w' : World) : Nat → Prop := fun b => w.heap.size ≤ b ∧ b < w'.heap.size
/-- What small leaves. -/
def SmallAt (w : World) (e : Ending) (w' : World) : Prop := ∃ A c B d, e = .returned (.agg #[.int .i64 1, .slice A 1 c, .slice B 1 d]) ∧ mdSmall.In w' (FrS w w') [.int .i64 1, .slice A 1 c, .slice B 1 d] ∧ Below w.heap.size w w'
set_option maxRecDepth 100000 in
set_option maxHeartbeats 4000000 in
theorem small_any (w : World) : Calls Tryd.prog 16 #[] w (SmallAt w) := by
  go_enter Tryd.func16, Tryd.ntmps16
  go_upto_region 1 with (fail)
  go_cut [] (fun wx => mdSmall.In wx (FrS w wx) [.int .i64 1, .slice (some ⟨w.heap.size + 1, 0, none⟩) 1 1, .slice (some ⟨w.heap.size + 4, 0, none⟩) 1 1] ∧ wx.heap[w.heap.size]? = some (.cells #[.int .i64 1, .slice (some ⟨w.heap.size + 1, 0, none⟩) 1 1, .slice (some ⟨w.heap.size + 4, 0, none⟩) 1 1] 25 (0, 0)) ∧ Below w.heap.size w wx)
  case first =>
    go_wp2_with fail
    go_meet
    have hz : ∀ (o1 o2 o3 o4 o5 : Obj), (((((w.alloc o1).alloc o2).alloc o3).alloc o4).alloc o5).heap.size = w.heap.size + 5 := fun _ _ _ _ _ => by simp
    refine ⟨⟨_, _, rfl, sl_lit (ρ := conRep) (x := ⟨⟨#[107, 105, 109]⟩, 0⟩) (ds := [.string ⟨#[107, 105, 109]⟩, .int .i64 0]) (T := 56) (fr := (0, 0)) ⟨rfl, by decide +kernel⟩ ?k1 ⟨by omega, by rw [hz]; omega⟩,
      sl_lit (ρ := relRep) (x := ⟨⟨#[100, 111, 103]⟩, 1, [[0]]⟩) (ds := [.string ⟨#[100, 111, 103]⟩, .int .i64 1, .slice (some ⟨w.heap.size + 3, 0, none⟩) 1 1]) (T := 65) (fr := (0, 0)) ⟨_, rfl, by decide +kernel,
        sl_lit (ρ := intsRep) (x := [0]) (ds := [.slice (some ⟨w.heap.size + 2, 0, none⟩) 1 1]) (T := 44) (fr := (0, 0)) ⟨_, rfl, sl_lit (ρ := zRep) (x := 0) (ds := [.int .i64 0]) (T := 3) (fr := (0, 0)) rfl ?k2 ⟨by omega, by rw [hz]; omega⟩⟩ ?k3 ⟨by omega, by rw [hz]; omega⟩⟩ ?k4 ⟨by omega, by rw [hz]; omega⟩⟩, ?k0, by go_grown⟩
    case k1 => exact heap_old (by first | (simp; done) | (simp; omega)) (heap_old (by first | (simp; done) | (simp; omega)) (heap_old (by first | (simp; done) | (simp; omega)) (heap_at (by first | (simp; done) | (simp; omega)))))
    case k2 => exact heap_old (by first | (simp; done) | (simp; omega)) (heap_old (by first | (simp; done) | (simp; omega)) (heap_at (by first | (simp; done) | (simp; omega))))
    case k3 => exact heap_old (by first | (simp; done) | (simp; omega)) (heap_at (by first | (simp; done) | (simp; omega)))
    case k4 => exact heap_at (by first | (simp; done) | (simp; omega))
    case k0 => exact heap_old (by first | (simp; done) | (simp; omega)) (heap_old (by first | (simp; done) | (simp; omega)) (heap_old (by first | (simp; done) | (simp; omega)) (heap_old (by first | (simp; done) | (simp; omega)) (heap_at rfl))))
  case rest =>
    obtain ⟨hin, k0, hb⟩ := hcut
    rename World => wx
    have hfin : SmallAt w (.returned (.agg #[.int .i64 1, .slice (some ⟨w.heap.size + 1, 0, none⟩) 1 1, .slice (some ⟨w.heap.size + 4, 0, none⟩) 1 1])) wx := ⟨_, _, _, _, rfl, hin, hb⟩
    have HIN := Lib.hid hin
    have HB := Lib.hid hb
    have HFIN := Lib.hid hfin
    clear hin hb hfin
    have k0_0 := cv0 k0
    have k0_1 := cv1 k0
    have k0_2 := cv2 k0
    have k0_l := lt_heap k0
    have K0 := Lib.hid k0
    clear k0
    go_wp2_with fail
    refine bodyPost_ret (v := .agg #[.int .i64 1, .slice (some ⟨w.heap.size + 1, 0, none⟩) 1 1, .slice (some ⟨w.heap.size + 4, 0, none⟩) 1 1]) (by simp [results, Tryd.results16, go_sem, k0_0, k0_1, k0_2, k0_l]) rfl ?_
    exact HFIN.out
end

section
open Go Go.RowKit
set_option linter.unusedSimpArgs false
set_option linter.unusedVariables false
noncomputable def c_ck_r18 : Code := sub [1, 1, 1, 1, 1, 1, 1, 1, 1, 1, 1, 0, 0] (Tryd.f100.body.getD .skip)
set_option maxRecDepth 1000000 in
set_option maxHeartbeats 16000000 in
theorem ck_r18_wp {Q : Exit → Act → World → Prop} {bn bo bw d n m : Nat} {wo w : World} {kd : Int} {nm : ByteArray} {A B : Option Addr} {n1 c1 n2 c2 : Nat} (hs : CS wo w bn kd nm A n1 c1 B n2 c2 n m) (hN : ∀ a' w', Frm 133 [(1, .int .i64 (d : Nat)), (2, .pointer (some ⟨bn, 0, none⟩)), (3, .pointer (some ⟨bo, 0, none⟩)), (4, .pointer (some ⟨bw, 0, none⟩)), (5, .pointer (some ⟨wo.heap.size, 0, none⟩)), (7, .pointer (some ⟨wo.heap.size + 1, 0, none⟩)), (9, (.func (Fn.func 101) #[] #[.pointer (some ⟨wo.heap.size + 1 + 1, 0, none⟩)])), (12, .bool (namedF kd))] a' → CS wo w' bn kd nm A n1 c1 B n2 c2 n m → Q .normal a' w') : ∀ ac, Frm 133 [(1, .int .i64 (d : Nat)), (2, .pointer (some ⟨bn, 0, none⟩)), (3, .pointer (some ⟨bo, 0, none⟩)), (4, .pointer (some ⟨bw, 0, none⟩)), (5, .pointer (some ⟨wo.heap.size, 0, none⟩)), (7, .pointer (some ⟨wo.heap.size + 1, 0, none⟩)), (9, (.func (Fn.func 101) #[] #[.pointer (some ⟨wo.heap.size + 1 + 1, 0, none⟩)]))] ac → Code.wp Tryd.prog c_ck_r18 Q ac w := by
  refine frm_open ?_
  refine frame_ck ?_
  intros
  rename_i hq
  obtain ⟨-, -, e0q, e1q, e2q, e3q, e4q, e5q, e6q, -⟩ := hq
  obtain rfl := sI e0q
  obtain rfl := sI e1q
  obtain rfl := sI e2q
  obtain rfl := sI e3q
  obtain rfl := sI e4q
  obtain rfl := sI e5q
  obtain rfl := sI e6q
  conv => arg 2; whnf
  have a0 := cellv hs.a 0 rfl
  have a1 := cellv hs.a 1 rfl
  have a2 := cellv hs.a 2 rfl
  have a3 := cellv hs.a 3 rfl
  have al := lt_heap hs.a
  have hq := quant_any kd nm A B n1 c1 n2 c2 w
  have HS := Lib.hid hs
  clear hs
  have HQ := Lib.hid hq
  clear hq
  by_cases h2 : kd = 2
  · subst h2
    rw [show namedF 2 = true from rfl] at hN
    have HN := Lib.hid hN
    clear hN
    go_wp2_with fail
    exact HN.out _ _ (id ⟨rfl, rfl, rfl, rfl, rfl, rfl, rfl, rfl, rfl, rfl, trivial⟩) HS.out
  have t2 : (kd == 2) = false := beq_eq_false_iff_ne.2 h2
  by_cases hqu : isQu kd = true
  · rw [show namedF kd = true from by simp only [isQu, Bool.or_eq_true, decide_eq_true_eq] at hqu; simp only [namedF, Bool.or_eq_true, decide_eq_true_eq]; omega] at hN
    rw [hqu] at HQ
    clear hqu h2
    have HN := Lib.hid hN
    clear hN
    go_wp2_with fail
    (with_reducible refine HQ.out.mono ?_)
    rintro e w1 ⟨rfl, hb1⟩
    have hs := HS.out.below hb1
    clear hb1 a0 a1 a2 a3 al
    have a0 := cellv hs.a 0 rfl
    have a1 := cellv hs.a 1 rfl
    have a2 := cellv hs.a 2 rfl
    have a3 := cellv hs.a 3 rfl
    have al := lt_heap hs.a
    have HS := Lib.hid hs
    clear hs
    go_wp2_with fail
    exact HN.out _ _ (id ⟨rfl, rfl, rfl, rfl, rfl, rfl, rfl, rfl, rfl, rfl, trivial⟩) HS.out
  replace hqu : isQu kd = false := by simpa using hqu
  rw [hqu] at HQ
  by_cases h10 : kd = 10
  · subst h10
    rw [show namedF 10 = true from rfl] at hN
    clear hqu h2
    have HN := Lib.hid hN
    clear hN
    go_wp2_with fail
    (with_reducible refine HQ.out.mono ?_)
    rintro e w1 ⟨rfl, hb1⟩
    have hs := HS.out.below hb1
    clear hb1 a0 a1 a2 a3 al
    have a0 := cellv hs.a 0 rfl
    have a1 := cellv hs.a 1 rfl
    have a2 := cellv hs.a 2 rfl
    have a3 := cellv hs.a 3 rfl
    have al := lt_heap hs.a
    have HS := Lib.hid hs
    clear hs
    go_wp2_with fail
    exact HN.out _ _ (id ⟨rfl, rfl, rfl, rfl, rfl, rfl, rfl, rfl, rfl, rfl, trivial⟩) HS.out
  have t10 : (kd == 10) = false := beq_eq_false_iff_ne.2 h10
  rw [show namedF kd = false from by simp only [isQu, Bool.or_eq_false_iff, decide_eq_false_iff_not] at hqu; simp only [namedF, Bool.or_eq_false_iff, decide_eq_false_iff_not]; omega] at hN
  clear hqu h2 h10
  have HN := Lib.hid hN
  clear hN
  go_wp2_with fail
  (with_reducible refine HQ.out.mono ?_)
  rintro e w1 ⟨rfl, hb1⟩
  have hs := HS.out.below hb1
  clear hb1 a0 a1 a2 a3 al
  have a0 := cellv hs.a 0 rfl
  have a1 := cellv hs.a 1 rfl
  have a2 := cellv hs.a 2 rfl
  have a3 := cellv hs.a 3 rfl
  have al := lt_heap hs.a
  have HS := Lib.hid hs
  clear hs
  go_wp2_with fail
  exact HN.out _ _ (id ⟨rfl, rfl, rfl, rfl, rfl, rfl, rfl, rfl, rfl, rfl, trivial⟩) HS.out
noncomputable def c_ck_r19 : Code := sub [1, 1, 1, 1, 1, 1, 1, 1, 1, 1, 1, 0, 1, 0] (Tryd.f100.body.getD .skip)
set_option maxRecDepth 1000000 in
set_option maxHeartbeats 16000000 in
theorem ck_r19_wp {Q : Exit → Act → World → Prop} {nb : Bool} {bn bo bw d n m : Nat} {wo w : World} {kd : Int} {nm : ByteArray} {A B : Option Addr} {n1 c1 n2 c2 : Nat} (hn : nm.size ≤ maxLen) (hs : CS wo w bn kd nm A n1 c1 B n2 c2 n m) (hN : ∀ a', Frm 133 [(1, .int .i64 (d : Nat)), (2, .pointer (some ⟨bn, 0, none⟩)), (3, .pointer (some ⟨bo, 0, none⟩)), (4, .pointer (some ⟨bw, 0, none⟩)), (5, .pointer (some ⟨wo.heap.size, 0, none⟩)), (7, .pointer (some ⟨wo.heap.size + 1, 0, none⟩)), (9, (.func (Fn.func 101) #[] #[.pointer (some ⟨wo.heap.size + 1 + 1, 0, none⟩)])), (12, .bool nb), (90, .bool (nb && !okName nm))] a' → Q .normal a' w) : ∀ ac, Frm 133 [(1, .int .i64 (d : Nat)), (2, .pointer (some ⟨bn, 0, none⟩)), (3, .pointer (some ⟨bo, 0, none⟩)), (4, .pointer (some ⟨bw, 0, none⟩)), (5, .pointer (some ⟨wo.heap.size, 0, none⟩)), (7, .pointer (some ⟨wo.heap.size + 1, 0, none⟩)), (9, (.func (Fn.func 101) #[] #[.pointer (some ⟨wo.heap.size + 1 + 1, 0, none⟩)])), (12, .bool nb)] ac → Code.wp Tryd.prog c_ck_r19 Q ac w := by
  refine frm_open ?_
  refine frame_ck ?_
  intros
  rename_i hq
  obtain ⟨-, -, e0q, e1q, e2q, e3q, e4q, e5q, e6q, e7q, -⟩ := hq
  obtain rfl := sI e0q
  obtain rfl := sI e1q
  obtain rfl := sI e2q
  obtain rfl := sI e3q
  obtain rfl := sI e4q
  obtain rfl := sI e5q
  obtain rfl := sI e6q
  obtain rfl := sI e7q
  conv => arg 2; whnf
  have a0 := cellv hs.a 0 rfl
  have a1 := cellv hs.a 1 rfl
  have a2 := cellv hs.a 2 rfl
  have a3 := cellv hs.a 3 rfl
  have al := lt_heap hs.a
  have hnm := name_any nm w hn
  have HS := Lib.hid hs
  clear hs
  have HNM := Lib.hid hnm
  clear hnm
  cases nb
  · rw [show (false && !okName nm) = false from rfl] at hN
    have HN := Lib.hid hN
    clear hN
    go_wp2_with fail
    exact HN.out _ (id ⟨rfl, rfl, rfl, rfl, rfl, rfl, rfl, rfl, rfl, rfl, rfl, trivial⟩)
  · rw [show (true && !okName nm) = !okName nm from by simp] at hN
    have HN := Lib.hid hN
    clear hN
    go_wp2_with fail
    (with_reducible refine HNM.out.mono ?_)
    rintro e w1 ⟨rfl, rfl⟩
    go_wp2_with fail
    exact HN.out _ (id ⟨rfl, rfl, rfl, rfl, rfl, rfl, rfl, rfl, rfl, rfl, rfl, trivial⟩)
noncomputable def c_ck_r20 : Code := sub [1, 1, 1, 1, 1, 1, 1, 1, 1, 1, 1, 0, 1, 1, 0, 0] (Tryd.f100.body.getD .skip)
set_option maxRecDepth 1000000 in
set_option maxHeartbeats 16000000 in
theorem ck_r20_wp {Q : Exit → Act → World → Prop} {bn bo bw d n m : Nat} {wo w : World} {kd : Int} {nm : ByteArray} {A B : Option Addr} {n1 c1 n2 c2 : Nat} (hs : CS wo w bn kd nm A n1 c1 B n2 c2 n m) (hN : ∀ a' w', Frm 133 [(7, .pointer (some ⟨wo.heap.size + 1, 0, none⟩))] a' → CD wo w' bn m (.int .i64 10) (.int .i64 (n : Nat)) → Q .normal a' w') : ∀ ac, Frm 133 [(1, .int .i64 (d : Nat)), (2, .pointer (some ⟨bn, 0, none⟩)), (3, .pointer (some ⟨bo, 0, none⟩)), (4, .pointer (some ⟨bw, 0, none⟩)), (5, .pointer (some ⟨wo.heap.size, 0, none⟩)), (7, .pointer (some ⟨wo.heap.size + 1, 0, none⟩)), (9, (.func (Fn.func 101) #[] #[.pointer (some ⟨wo.heap.size + 1 + 1, 0, none⟩)]))] ac → Code.wp Tryd.prog c_ck_r20 Q ac w := by
  refine frm_open ?_
  refine frame_ck ?_
  intros
  rename_i hq
  obtain ⟨-, -, e0q, e1q, e2q, e3q, e4q, e5q, e6q, -⟩ := hq
  obtain rfl := sI e0q
  obtain rfl := sI e1q
  obtain rfl := sI e2q
  obtain rfl := sI e3q
  obtain rfl := sI e4q
  obtain rfl := sI e5q
  obtain rfl := sI e6q
  conv => arg 2; whnf
  have hb := badF_any (wo.heap.size + 1 + 1) n 10 w hs.p
  have HN := Lib.hid hN
  have HB := Lib.hid hb
  clear hN hb
  have HS := Lib.hid hs
  clear hs
  go_wp2_with fail
  (with_reducible refine HB.out.mono ?_)
  rintro e w1 ⟨rfl, hb1⟩
  have hs := HS.out.below hb1
  have rc0 := cellv hs.r 0 rfl
  have rc1 := cellv hs.r 1 rfl
  have rf0 := free_heap hs.r 0
  have rf1 := free_heap hs.r 1
  have rl := lt_heap hs.r
  have HS := Lib.hid hs
  clear hs
  clear hb1
  go_wp2_with fail
  exact HN.out _ _ (id ⟨rfl, rfl, rfl, trivial⟩) (HS.out.put _ _)
noncomputable def c_ck_r21 : Code := sub [1, 1, 1, 1, 1, 1, 1, 1, 1, 1, 1, 0, 1, 1, 1, 0] (Tryd.f100.body.getD .skip)
set_option maxRecDepth 1000000 in
set_option maxHeartbeats 16000000 in
theorem ck_r21_wp {Q : Exit → Act → World → Prop} {nb : Bool} {bn bo bw d n m : Nat} {wo w : World} {kd : Int} {nm : ByteArray} {A B : Option Addr} {n1 c1 n2 c2 : Nat} (hs : CS wo w bn kd nm A n1 c1 B n2 c2 n m) (hN : ∀ a', Frm 133 [(1, .int .i64 (d : Nat)), (2, .pointer (some ⟨bn, 0, none⟩)), (3, .pointer (some ⟨bo, 0, none⟩)), (4, .pointer (some ⟨bw, 0, none⟩)), (5, .pointer (some ⟨wo.heap.size, 0, none⟩)), (7, .pointer (some ⟨wo.heap.size + 1, 0, none⟩)), (9, (.func (Fn.func 101) #[] #[.pointer (some ⟨wo.heap.size + 1 + 1, 0, none⟩)])), (99, .bool (!nb && decide (nm ≠ bNilF)))] a' → Q .normal a' w) : ∀ ac, Frm 133 [(1, .int .i64 (d : Nat)), (2, .pointer (some ⟨bn, 0, none⟩)), (3, .pointer (some ⟨bo, 0, none⟩)), (4, .pointer (some ⟨bw, 0, none⟩)), (5, .pointer (some ⟨wo.heap.size, 0, none⟩)), (7, .pointer (some ⟨wo.heap.size + 1, 0, none⟩)), (9, (.func (Fn.func 101) #[] #[.pointer (some ⟨wo.heap.size + 1 + 1, 0, none⟩)])), (12, .bool nb)] ac → Code.wp Tryd.prog c_ck_r21 Q ac w := by
  refine frm_open ?_
  refine frame_ck ?_
  intros
  rename_i hq
  obtain ⟨-, -, e0q, e1q, e2q, e3q, e4q, e5q, e6q, e7q, -⟩ := hq
  obtain rfl := sI e0q
  obtain rfl := sI e1q
  obtain rfl := sI e2q
  obtain rfl := sI e3q
  obtain rfl := sI e4q
  obtain rfl := sI e5q
  obtain rfl := sI e6q
  obtain rfl := sI e7q
  conv => arg 2; whnf
  have a0 := cellv hs.a 0 rfl
  have a1 := cellv hs.a 1 rfl
  have a2 := cellv hs.a 2 rfl
  have a3 := cellv hs.a 3 rfl
  have al := lt_heap hs.a
  have HS := Lib.hid hs
  clear hs
  cases nb
  case true =>
    rw [show (!true && decide (nm ≠ bNilF)) = false from rfl] at hN
    have HN := Lib.hid hN
    clear hN
    go_wp2_with fail
    exact HN.out _ (id ⟨rfl, rfl, rfl, rfl, rfl, rfl, rfl, rfl, rfl, rfl, trivial⟩)
  rw [show (!false && decide (nm ≠ bNilF)) = decide (nm ≠ bNilF) from by simp] at hN
  by_cases hz : nm = bNilF
  · subst hz
    have t1 : bNilF.toList.isEmpty = true := by simp [ByteArray.toList_eq, bNilF]
    rw [show decide (bNilF ≠ bNilF) = false from decide_eq_false (fun h => h rfl)] at hN
    have HN := Lib.hid hN
    clear hN
    go_wp2_with fail
    exact HN.out _ (id ⟨rfl, rfl, rfl, rfl, rfl, rfl, rfl, rfl, rfl, rfl, trivial⟩)
  · have t1 : nm.toList.isEmpty = false := by
      cases e : nm.toList.isEmpty
      · rfl
      · exact absurd (bytes_inj (by rw [List.isEmpty_iff.1 e]; simp [bNilF])) hz
    rw [show decide (nm ≠ bNilF) = true from decide_eq_true hz] at hN
    clear hz
    have HN := Lib.hid hN
    clear hN
    go_wp2_with fail
    exact HN.out _ (id ⟨rfl, rfl, rfl, rfl, rfl, rfl, rfl, rfl, rfl, rfl, trivial⟩)
noncomputable def c_ck_r22 : Code := sub [1, 1, 1, 1, 1, 1, 1, 1, 1, 1, 1, 0, 1, 1, 1, 1, 0, 0] (Tryd.f100.body.getD .skip)
set_option maxRecDepth 1000000 in
set_option maxHeartbeats 16000000 in
theorem ck_r22_wp {Q : Exit → Act → World → Prop} {bn bo bw d n m : Nat} {wo w : World} {kd : Int} {nm : ByteArray} {A B : Option Addr} {n1 c1 n2 c2 : Nat} (hs : CS wo w bn kd nm A n1 c1 B n2 c2 n m) (hN : ∀ a' w', Frm 133 [(7, .pointer (some ⟨wo.heap.size + 1, 0, none⟩))] a' → CD wo w' bn m (.int .i64 5) (.int .i64 (n : Nat)) → Q .normal a' w') : ∀ ac, Frm 133 [(1, .int .i64 (d : Nat)), (2, .pointer (some ⟨bn, 0, none⟩)), (3, .pointer (some ⟨bo, 0, none⟩)), (4, .pointer (some ⟨bw, 0, none⟩)), (5, .pointer (some ⟨wo.heap.size, 0, none⟩)), (7, .pointer (some ⟨wo.heap.size + 1, 0, none⟩)), (9, (.func (Fn.func 101) #[] #[.pointer (some ⟨wo.heap.size + 1 + 1, 0, none⟩)]))] ac → Code.wp Tryd.prog c_ck_r22 Q ac w := by
  refine frm_open ?_
  refine frame_ck ?_
  intros
  rename_i hq
  obtain ⟨-, -, e0q, e1q, e2q, e3q, e4q, e5q, e6q, -⟩ := hq
  obtain rfl := sI e0q
  obtain rfl := sI e1q
  obtain rfl := sI e2q
  obtain rfl := sI e3q
  obtain rfl := sI e4q
  obtain rfl := sI e5q
  obtain rfl := sI e6q
  conv => arg 2; whnf
  have hb := badF_any (wo.heap.size + 1 + 1) n 5 w hs.p
  have HN := Lib.hid hN
  have HB := Lib.hid hb
  clear hN hb
  have HS := Lib.hid hs
  clear hs
  go_wp2_with fail
  (with_reducible refine HB.out.mono ?_)
  rintro e w1 ⟨rfl, hb1⟩
  have hs := HS.out.below hb1
  have rc0 := cellv hs.r 0 rfl
  have rc1 := cellv hs.r 1 rfl
  have rf0 := free_heap hs.r 0
  have rf1 := free_heap hs.r 1
  have rl := lt_heap hs.r
  have HS := Lib.hid hs
  clear hs
  clear hb1
  go_wp2_with fail
  exact HN.out _ _ (id ⟨rfl, rfl, rfl, trivial⟩) (HS.out.put _ _)
noncomputable def c_ck_r23 : Code := sub [1, 1, 1, 1, 1, 1, 1, 1, 1, 1, 1, 1, 0, 0] (Tryd.f100.body.getD .skip)
set_option maxRecDepth 1000000 in
set_option maxHeartbeats 16000000 in
theorem ck_r23_wp {Q : Exit → Act → World → Prop} {bn bo bw d n m : Nat} {wo w : World} {kd : Int} {nm : ByteArray} {A B : Option Addr} {n1 c1 n2 c2 : Nat} (hs : CS wo w bn kd nm A n1 c1 B n2 c2 n m) (hN : ∀ a', Frm 133 [(1, .int .i64 (d : Nat)), (2, .pointer (some ⟨bn, 0, none⟩)), (3, .pointer (some ⟨bo, 0, none⟩)), (4, .pointer (some ⟨bw, 0, none⟩)), (5, .pointer (some ⟨wo.heap.size, 0, none⟩)), (7, .pointer (some ⟨wo.heap.size + 1, 0, none⟩)), (9, (.func (Fn.func 101) #[] #[.pointer (some ⟨wo.heap.size + 1 + 1, 0, none⟩)])), (103, .slice A n1 c1), (104, .int .i64 (n1 : Nat)), (105, .int .i64 (0 : Nat))] a' → Q .normal a' w) : ∀ ac, Frm 133 [(1, .int .i64 (d : Nat)), (2, .pointer (some ⟨bn, 0, none⟩)), (3, .pointer (some ⟨bo, 0, none⟩)), (4, .pointer (some ⟨bw, 0, none⟩)), (5, .pointer (some ⟨wo.heap.size, 0, none⟩)), (7, .pointer (some ⟨wo.heap.size + 1, 0, none⟩)), (9, (.func (Fn.func 101) #[] #[.pointer (some ⟨wo.heap.size + 1 + 1, 0, none⟩)]))] ac → Code.wp Tryd.prog c_ck_r23 Q ac w := by
  refine frm_open ?_
  refine frame_ck ?_
  intros
  rename_i hq
  obtain ⟨-, -, e0q, e1q, e2q, e3q, e4q, e5q, e6q, -⟩ := hq
  obtain rfl := sI e0q
  obtain rfl := sI e1q
  obtain rfl := sI e2q
  obtain rfl := sI e3q
  obtain rfl := sI e4q
  obtain rfl := sI e5q
  obtain rfl := sI e6q
  conv => arg 2; whnf
  have a0 := cellv hs.a 0 rfl
  have a1 := cellv hs.a 1 rfl
  have a2 := cellv hs.a 2 rfl
  have a3 := cellv hs.a 3 rfl
  have al := lt_heap hs.a
  have HS := Lib.hid hs
  clear hs
  have HN := Lib.hid hN
  clear hN
  go_wp2_with fail
  exact HN.out _ (id ⟨rfl, rfl, rfl, rfl, rfl, rfl, rfl, rfl, rfl, rfl, rfl, rfl, trivial⟩)
noncomputable def c_ck_r24 : Code := sub [1, 1, 1, 1, 1, 1, 1, 1, 1, 1, 1, 1, 0, 1, 0, 0, 0] (Tryd.f100.body.getD .skip)
set_option maxRecDepth 1000000 in
set_option maxHeartbeats 16000000 in
theorem ck_r24_wp {Q : Exit → Act → World → Prop} {i bn bo bw d : Nat} {wo w : World} {A : Option Addr} {n1 c1 : Nat} (hN : ∀ a', Frm 133 [(1, .int .i64 (d : Nat)), (2, .pointer (some ⟨bn, 0, none⟩)), (3, .pointer (some ⟨bo, 0, none⟩)), (4, .pointer (some ⟨bw, 0, none⟩)), (5, .pointer (some ⟨wo.heap.size, 0, none⟩)), (7, .pointer (some ⟨wo.heap.size + 1, 0, none⟩)), (9, (.func (Fn.func 101) #[] #[.pointer (some ⟨wo.heap.size + 1 + 1, 0, none⟩)])), (103, .slice A n1 c1), (104, .int .i64 (n1 : Nat)), (105, .int .i64 (i : Nat)), (106, .bool (decide (i < n1)))] a' → Q .normal a' w) : ∀ ac, Frm 133 [(1, .int .i64 (d : Nat)), (2, .pointer (some ⟨bn, 0, none⟩)), (3, .pointer (some ⟨bo, 0, none⟩)), (4, .pointer (some ⟨bw, 0, none⟩)), (5, .pointer (some ⟨wo.heap.size, 0, none⟩)), (7, .pointer (some ⟨wo.heap.size + 1, 0, none⟩)), (9, (.func (Fn.func 101) #[] #[.pointer (some ⟨wo.heap.size + 1 + 1, 0, none⟩)])), (103, .slice A n1 c1), (104, .int .i64 (n1 : Nat)), (105, .int .i64 (i : Nat))] ac → Code.wp Tryd.prog c_ck_r24 Q ac w := by
  refine frm_open ?_
  refine frame_ck ?_
  intros
  rename_i hq
  obtain ⟨-, -, e0q, e1q, e2q, e3q, e4q, e5q, e6q, e7q, e8q, e9q, -⟩ := hq
  obtain rfl := sI e0q
  obtain rfl := sI e1q
  obtain rfl := sI e2q
  obtain rfl := sI e3q
  obtain rfl := sI e4q
  obtain rfl := sI e5q
  obtain rfl := sI e6q
  obtain rfl := sI e7q
  obtain rfl := sI e8q
  obtain rfl := sI e9q
  conv => arg 2; whnf
  by_cases h : i < n1
  · have t1 : decide ((i : Int) < (n1 : Int)) = true := decide_eq_true (by omega)
    have t2 : decide (i < n1) = true := decide_eq_true h
    rw [t2] at hN
    clear h
    have HN := Lib.hid hN
    clear hN
    go_wp2_with fail
    exact HN.out _ (id ⟨rfl, rfl, rfl, rfl, rfl, rfl, rfl, rfl, rfl, rfl, rfl, rfl, rfl, trivial⟩)
  · have t1 : decide ((i : Int) < (n1 : Int)) = false := decide_eq_false (by omega)
    have t2 : decide (i < n1) = false := decide_eq_false h
    rw [t2] at hN
    clear h
    have HN := Lib.hid hN
    clear hN
    go_wp2_with fail
    exact HN.out _ (id ⟨rfl, rfl, rfl, rfl, rfl, rfl, rfl, rfl, rfl, rfl, rfl, rfl, rfl, trivial⟩)
noncomputable def c_ck_r25 : Code := sub [1, 1, 1, 1, 1, 1, 1, 1, 1, 1, 1, 1, 0, 1, 0, 0, 1, 1, 0, 0, 0] (Tryd.f100.body.getD .skip)
set_option maxRecDepth 1000000 in
set_option maxHeartbeats 16000000 in
theorem ck_r25_wp {Q : Exit → Act → World → Prop} {b o : Nat} {s : ByteArray} {i bn bo bw d : Nat} {wo w : World} {n1 c1 : Nat} (hi : i < n1) (hc : w.cell? ⟨b, o + i, none⟩ = some (.string s)) (hbl : b < w.heap.size) (hN : ∀ a', Frm 133 [(1, .int .i64 (d : Nat)), (2, .pointer (some ⟨bn, 0, none⟩)), (3, .pointer (some ⟨bo, 0, none⟩)), (4, .pointer (some ⟨bw, 0, none⟩)), (5, .pointer (some ⟨wo.heap.size, 0, none⟩)), (7, .pointer (some ⟨wo.heap.size + 1, 0, none⟩)), (9, (.func (Fn.func 101) #[] #[.pointer (some ⟨wo.heap.size + 1 + 1, 0, none⟩)])), (103, .slice (some ⟨b, o, none⟩) n1 c1), (104, .int .i64 (n1 : Nat)), (105, .int .i64 (i : Nat)), (14, .string s)] a' → Q .normal a' w) : ∀ ac, Frm 133 [(1, .int .i64 (d : Nat)), (2, .pointer (some ⟨bn, 0, none⟩)), (3, .pointer (some ⟨bo, 0, none⟩)), (4, .pointer (some ⟨bw, 0, none⟩)), (5, .pointer (some ⟨wo.heap.size, 0, none⟩)), (7, .pointer (some ⟨wo.heap.size + 1, 0, none⟩)), (9, (.func (Fn.func 101) #[] #[.pointer (some ⟨wo.heap.size + 1 + 1, 0, none⟩)])), (103, .slice (some ⟨b, o, none⟩) n1 c1), (104, .int .i64 (n1 : Nat)), (105, .int .i64 (i : Nat))] ac → Code.wp Tryd.prog c_ck_r25 Q ac w := by
  refine frm_open ?_
  refine frame_ck ?_
  intros
  rename_i hq
  obtain ⟨-, -, e0q, e1q, e2q, e3q, e4q, e5q, e6q, e7q, e8q, e9q, -⟩ := hq
  obtain rfl := sI e0q
  obtain rfl := sI e1q
  obtain rfl := sI e2q
  obtain rfl := sI e3q
  obtain rfl := sI e4q
  obtain rfl := sI e5q
  obtain rfl := sI e6q
  obtain rfl := sI e7q
  obtain rfl := sI e8q
  obtain rfl := sI e9q
  conv => arg 2; whnf
  have q0 : (0 : Int) ≤ (i : Int) := by omega
  have q1 : (i : Int) < (n1 : Int) := by omega
  have HN := Lib.hid hN
  clear hN
  go_wp2_with fail
  exact HN.out _ (id ⟨rfl, rfl, rfl, rfl, rfl, rfl, rfl, rfl, rfl, rfl, rfl, rfl, rfl, trivial⟩)
noncomputable def c_ck_r26 : Code := sub [1, 1, 1, 1, 1, 1, 1, 1, 1, 1, 1, 1, 0, 1, 0, 0, 1, 1, 0, 0, 1, 0] (Tryd.f100.body.getD .skip)
set_option maxRecDepth 1000000 in
set_option maxHeartbeats 16000000 in
theorem ck_r26_wp {Q : Exit → Act → World → Prop} {s : ByteArray} {i bn bo bw d : Nat} {wo w : World} {A : Option Addr} {n1 c1 : Nat} (hsz : s.size ≤ maxLen) (hN : ∀ a', Frm 133 [(1, .int .i64 (d : Nat)), (2, .pointer (some ⟨bn, 0, none⟩)), (3, .pointer (some ⟨bo, 0, none⟩)), (4, .pointer (some ⟨bw, 0, none⟩)), (5, .pointer (some ⟨wo.heap.size, 0, none⟩)), (7, .pointer (some ⟨wo.heap.size + 1, 0, none⟩)), (9, (.func (Fn.func 101) #[] #[.pointer (some ⟨wo.heap.size + 1 + 1, 0, none⟩)])), (103, .slice A n1 c1), (104, .int .i64 (n1 : Nat)), (105, .int .i64 (i : Nat)), (111, .bool (!okName s))] a' → Q .normal a' w) : ∀ ac, Frm 133 [(1, .int .i64 (d : Nat)), (2, .pointer (some ⟨bn, 0, none⟩)), (3, .pointer (some ⟨bo, 0, none⟩)), (4, .pointer (some ⟨bw, 0, none⟩)), (5, .pointer (some ⟨wo.heap.size, 0, none⟩)), (7, .pointer (some ⟨wo.heap.size + 1, 0, none⟩)), (9, (.func (Fn.func 101) #[] #[.pointer (some ⟨wo.heap.size + 1 + 1, 0, none⟩)])), (103, .slice A n1 c1), (104, .int .i64 (n1 : Nat)), (105, .int .i64 (i : Nat)), (14, .string s)] ac → Code.wp Tryd.prog c_ck_r26 Q ac w := by
  refine frm_open ?_
  refine frame_ck ?_
  intros
  rename_i hq
  obtain ⟨-, -, e0q, e1q, e2q, e3q, e4q, e5q, e6q, e7q, e8q, e9q, e10q, -⟩ := hq
  obtain rfl := sI e0q
  obtain rfl := sI e1q
  obtain rfl := sI e2q
  obtain rfl := sI e3q
  obtain rfl := sI e4q
  obtain rfl := sI e5q
  obtain rfl := sI e6q
  obtain rfl := sI e7q
  obtain rfl := sI e8q
  obtain rfl := sI e9q
  obtain rfl := sI e10q
  conv => arg 2; whnf
  have hnm := name_any s w hsz
  have HN := Lib.hid hN
  have HNM := Lib.hid hnm
  clear hN hnm
  go_wp2_with fail
  (with_reducible refine HNM.out.mono ?_)
  rintro e w1 ⟨rfl, rfl⟩
  go_wp2_with fail
  exact HN.out _ (id ⟨rfl, rfl, rfl, rfl, rfl, rfl, rfl, rfl, rfl, rfl, rfl, rfl, rfl, trivial⟩)
noncomputable def c_ck_r27 : Code := sub [1, 1, 1, 1, 1, 1, 1, 1, 1, 1, 1, 1, 0, 1, 0, 0, 1, 1, 0, 0, 1, 1, 0, 0] (Tryd.f100.body.getD .skip)
set_option maxRecDepth 1000000 in
set_option maxHeartbeats 16000000 in
theorem ck_r27_wp {Q : Exit → Act → World → Prop} {bn bo bw d n m : Nat} {wo w : World} {kd : Int} {nm : ByteArray} {A B : Option Addr} {n1 c1 n2 c2 : Nat} (hs : CS wo w bn kd nm A n1 c1 B n2 c2 n m) (hN : ∀ a' w', Frm 133 [(7, .pointer (some ⟨wo.heap.size + 1, 0, none⟩))] a' → CD wo w' bn m (.int .i64 10) (.int .i64 (n : Nat)) → Q .normal a' w') : ∀ ac, Frm 133 [(1, .int .i64 (d : Nat)), (2, .pointer (some ⟨bn, 0, none⟩)), (3, .pointer (some ⟨bo, 0, none⟩)), (4, .pointer (some ⟨bw, 0, none⟩)), (5, .pointer (some ⟨wo.heap.size, 0, none⟩)), (7, .pointer (some ⟨wo.heap.size + 1, 0, none⟩)), (9, (.func (Fn.func 101) #[] #[.pointer (some ⟨wo.heap.size + 1 + 1, 0, none⟩)]))] ac → Code.wp Tryd.prog c_ck_r27 Q ac w := by
  refine frm_open ?_
  refine frame_ck ?_
  intros
  rename_i hq
  obtain ⟨-, -, e0q, e1q, e2q, e3q, e4q, e5q, e6q, -⟩ := hq
  obtain rfl := sI e0q
  obtain rfl := sI e1q
  obtain rfl := sI e2q
  obtain rfl := sI e3q
  obtain rfl := sI e4q
  obtain rfl := sI e5q
  obtain rfl := sI e6q
  conv => arg 2; whnf
  have hb := badF_any (wo.heap.size + 1 + 1) n 10 w hs.p
  have HN := Lib.hid hN
  have HB := Lib.hid hb
  clear hN hb
  have HS := Lib.hid hs
  clear hs
  go_wp2_with fail
  (with_reducible refine HB.out.mono ?_)
  rintro e w1 ⟨rfl, hb1⟩
  have hs := HS.out.below hb1
  have rc0 := cellv hs.r 0 rfl
  have rc1 := cellv hs.r 1 rfl
  have rf0 := free_heap hs.r 0
  have rf1 := free_heap hs.r 1
  have rl := lt_heap hs.r
  have HS := Lib.hid hs
  clear hs
  clear hb1
  go_wp2_with fail
  exact HN.out _ _ (id ⟨rfl, rfl, rfl, trivial⟩) (HS.out.put _ _)
noncomputable def c_ck_r28 : Code := sub [1, 1, 1, 1, 1, 1, 1, 1, 1, 1, 1, 1, 0, 1, 0, 0, 1, 1, 1] (Tryd.f100.body.getD .skip)
set_option maxRecDepth 1000000 in
set_option maxHeartbeats 16000000 in
theorem ck_r28_wp {Q : Exit → Act → World → Prop} {i bn bo bw d : Nat} {wo w : World} {A : Option Addr} {n1 c1 : Nat} (hi : i < n1) (hlim : n1 ≤ maxLen) (hN : ∀ a', Frm 133 [(1, .int .i64 (d : Nat)), (2, .pointer (some ⟨bn, 0, none⟩)), (3, .pointer (some ⟨bo, 0, none⟩)), (4, .pointer (some ⟨bw, 0, none⟩)), (5, .pointer (some ⟨wo.heap.size, 0, none⟩)), (7, .pointer (some ⟨wo.heap.size + 1, 0, none⟩)), (9, (.func (Fn.func 101) #[] #[.pointer (some ⟨wo.heap.size + 1 + 1, 0, none⟩)])), (103, .slice A n1 c1), (104, .int .i64 (n1 : Nat)), (105, .int .i64 (i + 1 : Nat))] a' → Q .normal a' w) : ∀ ac, Frm 133 [(1, .int .i64 (d : Nat)), (2, .pointer (some ⟨bn, 0, none⟩)), (3, .pointer (some ⟨bo, 0, none⟩)), (4, .pointer (some ⟨bw, 0, none⟩)), (5, .pointer (some ⟨wo.heap.size, 0, none⟩)), (7, .pointer (some ⟨wo.heap.size + 1, 0, none⟩)), (9, (.func (Fn.func 101) #[] #[.pointer (some ⟨wo.heap.size + 1 + 1, 0, none⟩)])), (103, .slice A n1 c1), (104, .int .i64 (n1 : Nat)), (105, .int .i64 (i : Nat))] ac → Code.wp Tryd.prog c_ck_r28 Q ac w := by
  refine frm_open ?_
  refine frame_ck ?_
  intros
  rename_i hq
  obtain ⟨-, -, e0q, e1q, e2q, e3q, e4q, e5q, e6q, e7q, e8q, e9q, -⟩ := hq
  obtain rfl := sI e0q
  obtain rfl := sI e1q
  obtain rfl := sI e2q
  obtain rfl := sI e3q
  obtain rfl := sI e4q
  obtain rfl := sI e5q
  obtain rfl := sI e6q
  obtain rfl := sI e7q
  obtain rfl := sI e8q
  obtain rfl := sI e9q
  conv => arg 2; whnf
  have hi4 : (i : Int) ≤ 9223372036854775806 := by unfold maxLen at hlim; omega
  have HN := Lib.hid hN
  clear hN
  go_wp2_with fail
  exact HN.out _ (id ⟨rfl, rfl, rfl, rfl, rfl, rfl, rfl, rfl, rfl, rfl, rfl, rfl, trivial⟩)
noncomputable def c_ck_r29 : Code := sub [1, 1, 1, 1, 1, 1, 1, 1, 1, 1, 1, 1, 1, 0, 0] (Tryd.f100.body.getD .skip)
set_option maxRecDepth 1000000 in
set_option maxHeartbeats 16000000 in
theorem ck_r29_wp {Q : Exit → Act → World → Prop} {bn bo bw d n m : Nat} {wo w : World} {kd : Int} {nm : ByteArray} {A B : Option Addr} {n1 c1 n2 c2 : Nat} (hs : CS wo w bn kd nm A n1 c1 B n2 c2 n m) (hN : ∀ a', Frm 133 [(1, .int .i64 (d : Nat)), (2, .pointer (some ⟨bn, 0, none⟩)), (3, .pointer (some ⟨bo, 0, none⟩)), (4, .pointer (some ⟨bw, 0, none⟩)), (5, .pointer (some ⟨wo.heap.size, 0, none⟩)), (7, .pointer (some ⟨wo.heap.size + 1, 0, none⟩)), (9, (.func (Fn.func 101) #[] #[.pointer (some ⟨wo.heap.size + 1 + 1, 0, none⟩)])), (116, .slice B n2 c2), (117, .int .i64 (n2 : Nat)), (118, .int .i64 (0 : Nat))] a' → Q .normal a' w) : ∀ ac, Frm 133 [(1, .int .i64 (d : Nat)), (2, .pointer (some ⟨bn, 0, none⟩)), (3, .pointer (some ⟨bo, 0, none⟩)), (4, .pointer (some ⟨bw, 0, none⟩)), (5, .pointer (some ⟨wo.heap.size, 0, none⟩)), (7, .pointer (some ⟨wo.heap.size + 1, 0, none⟩)), (9, (.func (Fn.func 101) #[] #[.pointer (some ⟨wo.heap.size + 1 + 1, 0, none⟩)]))] ac → Code.wp Tryd.prog c_ck_r29 Q ac w := by
  refine frm_open ?_
  refine frame_ck ?_
  intros
  rename_i hq
  obtain ⟨-, -, e0q, e1q, e2q, e3q, e4q, e5q, e6q, -⟩ := hq
  obtain rfl := sI e0q
  obtain rfl := sI e1q
  obtain rfl := sI e2q
  obtain rfl := sI e3q
  obtain rfl := sI e4q
  obtain rfl := sI e5q
  obtain rfl := sI e6q
  conv => arg 2; whnf
  have a0 := cellv hs.a 0 rfl
  have a1 := cellv hs.a 1 rfl
  have a2 := cellv hs.a 2 rfl
  have a3 := cellv hs.a 3 rfl
  have al := lt_heap hs.a
  have HS := Lib.hid hs
  clear hs
  have HN := Lib.hid hN
  clear hN
  go_wp2_with fail
  exact HN.out _ (id ⟨rfl, rfl, rfl, rfl, rfl, rfl, rfl, rfl, rfl, rfl, rfl, rfl, trivial⟩)
noncomputable def c_ck_r30 : Code := sub [1, 1, 1, 1, 1, 1, 1, 1, 1, 1, 1, 1, 1, 0, 1, 0, 0, 0] (Tryd.f100.body.getD .skip)
set_option maxRecDepth 1000000 in
set_option maxHeartbeats 16000000 in
theorem ck_r30_wp {Q : Exit → Act → World → Prop} {i bn bo bw d : Nat} {wo w : World} {B : Option Addr} {n2 c2 : Nat} (hN : ∀ a', Frm 133 [(1, .int .i64 (d : Nat)), (2, .pointer (some ⟨bn, 0, none⟩)), (3, .pointer (some ⟨bo, 0, none⟩)), (4, .pointer (some ⟨bw, 0, none⟩)), (5, .pointer (some ⟨wo.heap.size, 0, none⟩)), (7, .pointer (some ⟨wo.heap.size + 1, 0, none⟩)), (9, (.func (Fn.func 101) #[] #[.pointer (some ⟨wo.heap.size + 1 + 1, 0, none⟩)])), (116, .slice B n2 c2), (117, .int .i64 (n2 : Nat)), (118, .int .i64 (i : Nat)), (119, .bool (decide (i < n2)))] a' → Q .normal a' w) : ∀ ac, Frm 133 [(1, .int .i64 (d : Nat)), (2, .pointer (some ⟨bn, 0, none⟩)), (3, .pointer (some ⟨bo, 0, none⟩)), (4, .pointer (some ⟨bw, 0, none⟩)), (5, .pointer (some ⟨wo.heap.size, 0, none⟩)), (7, .pointer (some ⟨wo.heap.size + 1, 0, none⟩)), (9, (.func (Fn.func 101) #[] #[.pointer (some ⟨wo.heap.size + 1 + 1, 0, none⟩)])), (116, .slice B n2 c2), (117, .int .i64 (n2 : Nat)), (118, .int .i64 (i : Nat))] ac → Code.wp Tryd.prog c_ck_r30 Q ac w := by
  refine frm_open ?_
  refine frame_ck ?_
  intros
  rename_i hq
  obtain ⟨-, -, e0q, e1q, e2q, e3q, e4q, e5q, e6q, e7q, e8q, e9q, -⟩ := hq
  obtain rfl := sI e0q
  obtain rfl := sI e1q
  obtain rfl := sI e2q
  obtain rfl := sI e3q
  obtain rfl := sI e4q
  obtain rfl := sI e5q
  obtain rfl := sI e6q
  obtain rfl := sI e7q
  obtain rfl := sI e8q
  obtain rfl := sI e9q
  conv => arg 2; whnf
  by_cases h : i < n2
  · have t1 : decide ((i : Int) < (n2 : Int)) = true := decide_eq_true (by omega)
    have t2 : decide (i < n2) = true := decide_eq_true h
    rw [t2] at hN
    clear h
    have HN := Lib.hid hN
    clear hN
    go_wp2_with fail
    exact HN.out _ (id ⟨rfl, rfl, rfl, rfl, rfl, rfl, rfl, rfl, rfl, rfl, rfl, rfl, rfl, trivial⟩)
  · have t1 : decide ((i : Int) < (n2 : Int)) = false := decide_eq_false (by omega)
    have t2 : decide (i < n2) = false := decide_eq_false h
    rw [t2] at hN
    clear h
    have HN := Lib.hid hN
    clear hN
    go_wp2_with fail
    exact HN.out _ (id ⟨rfl, rfl, rfl, rfl, rfl, rfl, rfl, rfl, rfl, rfl, rfl, rfl, rfl, trivial⟩)
noncomputable def c_ck_r31 : Code := sub [1, 1, 1, 1, 1, 1, 1, 1, 1, 1, 1, 1, 1, 0, 1, 0, 0, 1, 1, 0, 0, 0] (Tryd.f100.body.getD .skip)
set_option maxRecDepth 1000000 in
set_option maxHeartbeats 16000000 in
theorem ck_r31_wp {Q : Exit → Act → World → Prop} {b o : Nat} {i bn bo bw d : Nat} {wo w : World} {ke : Int} {ne : ByteArray} {Ae Be : Option Addr} {n3 c3 n4 c4 : Nat} {n2 c2 : Nat} (hi : i < n2) (h0 : w.cell? ⟨b, o + i * 4, none⟩ = some (.int .i64 ke)) (h1 : w.cell? ⟨b, o + i * 4 + 1, none⟩ = some (.string ne)) (h2 : w.cell? ⟨b, o + i * 4 + 2, none⟩ = some (.slice Ae n3 c3)) (h3 : w.cell? ⟨b, o + i * 4 + 3, none⟩ = some (.slice Be n4 c4)) (hbl : b < w.heap.size) (hN : ∀ a', Frm 133 [(1, .int .i64 (d : Nat)), (2, .pointer (some ⟨bn, 0, none⟩)), (3, .pointer (some ⟨bo, 0, none⟩)), (4, .pointer (some ⟨bw, 0, none⟩)), (5, .pointer (some ⟨wo.heap.size, 0, none⟩)), (7, .pointer (some ⟨wo.heap.size + 1, 0, none⟩)), (9, (.func (Fn.func 101) #[] #[.pointer (some ⟨wo.heap.size + 1 + 1, 0, none⟩)])), (116, .slice (some ⟨b, o, none⟩) n2 c2), (117, .int .i64 (n2 : Nat)), (118, .int .i64 (i : Nat)), (16, .pointer (some ⟨w.heap.size, 0, none⟩))] a' → Q .normal a' (w.alloc (.cells #[.int .i64 ke, .string ne, .slice Ae n3 c3, .slice Be n4 c4] 29))) : ∀ ac, Frm 133 [(1, .int .i64 (d : Nat)), (2, .pointer (some ⟨bn, 0, none⟩)), (3, .pointer (some ⟨bo, 0, none⟩)), (4, .pointer (some ⟨bw, 0, none⟩)), (5, .pointer (some ⟨wo.heap.size, 0, none⟩)), (7, .pointer (some ⟨wo.heap.size + 1, 0, none⟩)), (9, (.func (Fn.func 101) #[] #[.pointer (some ⟨wo.heap.size + 1 + 1, 0, none⟩)])), (116, .slice (some ⟨b, o, none⟩) n2 c2), (117, .int .i64 (n2 : Nat)), (118, .int .i64 (i : Nat))] ac → Code.wp Tryd.prog c_ck_r31 Q ac w := by
  refine frm_open ?_
  refine frame_ck ?_
  intros
  rename_i hq
  obtain ⟨-, -, e0q, e1q, e2q, e3q, e4q, e5q, e6q, e7q, e8q, e9q, -⟩ := hq
  obtain rfl := sI e0q
  obtain rfl := sI e1q
  obtain rfl := sI e2q
  obtain rfl := sI e3q
  obtain rfl := sI e4q
  obtain rfl := sI e5q
  obtain rfl := sI e6q
  obtain rfl := sI e7q
  obtain rfl := sI e8q
  obtain rfl := sI e9q
  conv => arg 2; whnf
  have q0 : (0 : Int) ≤ (i : Int) := by omega
  have q1 : (i : Int) < (n2 : Int) := by omega
  have HN := Lib.hid hN
  clear hN
  go_wp2_with fail
  exact HN.out _ (id ⟨rfl, rfl, rfl, rfl, rfl, rfl, rfl, rfl, rfl, rfl, rfl, rfl, rfl, trivial⟩)
noncomputable def c_ck_r32 : Code := sub [1, 1, 1, 1, 1, 1, 1, 1, 1, 1, 1, 1, 1, 0, 1, 0, 0, 1, 1, 0, 0, 1, 0] (Tryd.f100.body.getD .skip)
set_option maxRecDepth 1000000 in
set_option maxHeartbeats 16000000 in
theorem ck_r32_wp {Q : Exit → Act → World → Prop} {i ge fc fi m2 : Nat} {ke : Int} {ne : ByteArray} {Ae Be : Option Addr} {n3 c3 n4 c4 : Nat} {bn bo bw d n m : Nat} {wo w : World} {kd : Int} {nm : ByteArray} {A B : Option Addr} {n1 c1 n2 c2 : Nat} (hs : CS wo w bn kd nm A n1 c1 B n2 c2 n m) (hd : d ≤ 50) (hf : w.heap[bw]? = some (.cells #[.func (Fn.func 100) #[] #[.pointer (some ⟨bn, 0, none⟩), .pointer (some ⟨bo, 0, none⟩), .pointer (some ⟨bw, 0, none⟩)]] 110 (0, 0))) (hge : w.heap[ge]? = some (.cells #[.int .i64 ke, .string ne, .slice Ae n3 c3, .slice Be n4 c4] 29 (0, 0))) (hcall : Calls Tryd.prog 100 #[.agg #[.int .i64 ke, .string ne, .slice Ae n3 c3, .slice Be n4 c4], .int .i64 ((d : Int) + 1), .pointer (some ⟨bn, 0, none⟩), .pointer (some ⟨bo, 0, none⟩), .pointer (some ⟨bw, 0, none⟩)] w fun e w' => e = .returned (.agg #[.int .i64 (fc : Nat), .int .i64 (fi : Nat)]) ∧ w'.heap[bn]? = some (.cells #[.int .i64 (m2 : Nat)] 3 (0, 0)) ∧ Keeps (· = bn) w w') (hN : ∀ gf a' w', Frm 133 [(1, .int .i64 (d : Nat)), (2, .pointer (some ⟨bn, 0, none⟩)), (3, .pointer (some ⟨bo, 0, none⟩)), (4, .pointer (some ⟨bw, 0, none⟩)), (5, .pointer (some ⟨wo.heap.size, 0, none⟩)), (7, .pointer (some ⟨wo.heap.size + 1, 0, none⟩)), (9, (.func (Fn.func 101) #[] #[.pointer (some ⟨wo.heap.size + 1 + 1, 0, none⟩)])), (116, .slice B n2 c2), (117, .int .i64 (n2 : Nat)), (118, .int .i64 (i : Nat)), (17, .pointer (some ⟨gf, 0, none⟩))] a' → CS wo w' bn kd nm A n1 c1 B n2 c2 n m2 → w'.heap[gf]? = some (.cells #[.int .i64 (fc : Nat), .int .i64 (fi : Nat)] 31 (0, 0)) → Q .normal a' w') : ∀ ac, Frm 133 [(1, .int .i64 (d : Nat)), (2, .pointer (some ⟨bn, 0, none⟩)), (3, .pointer (some ⟨bo, 0, none⟩)), (4, .pointer (some ⟨bw, 0, none⟩)), (5, .pointer (some ⟨wo.heap.size, 0, none⟩)), (7, .pointer (some ⟨wo.heap.size + 1, 0, none⟩)), (9, (.func (Fn.func 101) #[] #[.pointer (some ⟨wo.heap.size + 1 + 1, 0, none⟩)])), (116, .slice B n2 c2), (117, .int .i64 (n2 : Nat)), (118, .int .i64 (i : Nat)), (16, .pointer (some ⟨ge, 0, none⟩))] ac → Code.wp Tryd.prog c_ck_r32 Q ac w := by
  refine frm_open ?_
  refine frame_ck ?_
  intros
  rename_i hq
  obtain ⟨-, -, e0q, e1q, e2q, e3q, e4q, e5q, e6q, e7q, e8q, e9q, e10q, -⟩ := hq
  obtain rfl := sI e0q
  obtain rfl := sI e1q
  obtain rfl := sI e2q
  obtain rfl := sI e3q
  obtain rfl := sI e4q
  obtain rfl := sI e5q
  obtain rfl := sI e6q
  obtain rfl := sI e7q
  obtain rfl := sI e8q
  obtain rfl := sI e9q
  obtain rfl := sI e10q
  conv => arg 2; whnf
  have f0 := cellv hf 0 rfl
  have fl := lt_heap hf
  have e0 := cellv hge 0 rfl
  have e1 := cellv hge 1 rfl
  have e2 := cellv hge 2 rfl
  have e3 := cellv hge 3 rfl
  have el := lt_heap hge
  have hd4 : (d : Int) ≤ 5000 := by omega
  clear hf hge
  have HN := Lib.hid hN
  have HCALL := Lib.hid hcall
  clear hN hcall
  have HS := Lib.hid hs
  clear hs
  go_wp2_with fail
  (with_reducible refine HCALL.out.mono ?_)
  rintro e w1 ⟨rfl, hc1, hk1⟩
  have HC1 := Lib.hid hc1
  have HK1 := Lib.hid hk1
  clear hc1 hk1
  go_wp2_with fail
  exact HN.out w1.heap.size _ _ (id ⟨rfl, rfl, rfl, rfl, rfl, rfl, rfl, rfl, rfl, rfl, rfl, rfl, rfl, trivial⟩) ((HS.out.keeps HK1.out HC1.out).below ((Below.refl _ _).alloc (Nat.le_refl _) _)) (heap_at rfl)
noncomputable def c_ck_r33 : Code := sub [1, 1, 1, 1, 1, 1, 1, 1, 1, 1, 1, 1, 1, 0, 1, 0, 0, 1, 1, 0, 0, 1, 1, 0] (Tryd.f100.body.getD .skip)
set_option maxRecDepth 1000000 in
set_option maxHeartbeats 16000000 in
theorem ck_r33_wp {Q : Exit → Act → World → Prop} {i gf fc fi bn bo bw d : Nat} {wo w : World} {B : Option Addr} {n2 c2 : Nat} (hgf : w.heap[gf]? = some (.cells #[.int .i64 (fc : Nat), .int .i64 (fi : Nat)] 31 (0, 0))) (hN : ∀ a', Frm 133 [(1, .int .i64 (d : Nat)), (2, .pointer (some ⟨bn, 0, none⟩)), (3, .pointer (some ⟨bo, 0, none⟩)), (4, .pointer (some ⟨bw, 0, none⟩)), (5, .pointer (some ⟨wo.heap.size, 0, none⟩)), (7, .pointer (some ⟨wo.heap.size + 1, 0, none⟩)), (9, (.func (Fn.func 101) #[] #[.pointer (some ⟨wo.heap.size + 1 + 1, 0, none⟩)])), (116, .slice B n2 c2), (117, .int .i64 (n2 : Nat)), (118, .int .i64 (i : Nat)), (17, .pointer (some ⟨gf, 0, none⟩)), (129, .bool (decide (fc ≠ 0)))] a' → Q .normal a' w) : ∀ ac, Frm 133 [(1, .int .i64 (d : Nat)), (2, .pointer (some ⟨bn, 0, none⟩)), (3, .pointer (some ⟨bo, 0, none⟩)), (4, .pointer (some ⟨bw, 0, none⟩)), (5, .pointer (some ⟨wo.heap.size, 0, none⟩)), (7, .pointer (some ⟨wo.heap.size + 1, 0, none⟩)), (9, (.func (Fn.func 101) #[] #[.pointer (some ⟨wo.heap.size + 1 + 1, 0, none⟩)])), (116, .slice B n2 c2), (117, .int .i64 (n2 : Nat)), (118, .int .i64 (i : Nat)), (17, .pointer (some ⟨gf, 0, none⟩))] ac → Code.wp Tryd.prog c_ck_r33 Q ac w := by
  refine frm_open ?_
  refine frame_ck ?_
  intros
  rename_i hq
  obtain ⟨-, -, e0q, e1q, e2q, e3q, e4q, e5q, e6q, e7q, e8q, e9q, e10q, -⟩ := hq
  obtain rfl := sI e0q
  obtain rfl := sI e1q
  obtain rfl := sI e2q
  obtain rfl := sI e3q
  obtain rfl := sI e4q
  obtain rfl := sI e5q
  obtain rfl := sI e6q
  obtain rfl := sI e7q
  obtain rfl := sI e8q
  obtain rfl := sI e9q
  obtain rfl := sI e10q
  conv => arg 2; whnf
  have g0 := cellv hgf 0 rfl
  have g1 := cellv hgf 1 rfl
  have gl := lt_heap hgf
  clear hgf
  by_cases h : fc = 0
  · have t1 : ((fc : Int) != 0) = false := by rw [bne_eq_false_iff_eq]; omega
    rw [show decide (fc ≠ 0) = false from decide_eq_false (fun h2 => h2 h)] at hN
    clear h
    have HN := Lib.hid hN
    clear hN
    go_wp2_with fail
    exact HN.out _ (id ⟨rfl, rfl, rfl, rfl, rfl, rfl, rfl, rfl, rfl, rfl, rfl, rfl, rfl, rfl, trivial⟩)
  · have t1 : ((fc : Int) != 0) = true := by rw [bne_iff_ne]; omega
    rw [show decide (fc ≠ 0) = true from decide_eq_true h] at hN
    clear h
    have HN := Lib.hid hN
    clear hN
    go_wp2_with fail
    exact HN.out _ (id ⟨rfl, rfl, rfl, rfl, rfl, rfl, rfl, rfl, rfl, rfl, rfl, rfl, rfl, rfl, trivial⟩)
noncomputable def c_ck_r34 : Code := sub [1, 1, 1, 1, 1, 1, 1, 1, 1, 1, 1, 1, 1, 0, 1, 0, 0, 1, 1, 0, 0, 1, 1, 1, 0, 0] (Tryd.f100.body.getD .skip)
set_option maxRecDepth 1000000 in
set_option maxHeartbeats 16000000 in
theorem ck_r34_wp {Q : Exit → Act → World → Prop} {gf fc fi : Nat} {bn n m : Nat} {wo w : World} {kd : Int} {nm : ByteArray} {A B : Option Addr} {n1 c1 n2 c2 : Nat} (hs : CS wo w bn kd nm A n1 c1 B n2 c2 n m) (hgf : w.heap[gf]? = some (.cells #[.int .i64 (fc : Nat), .int .i64 (fi : Nat)] 31 (0, 0))) (hN : ∀ a' w', Frm 133 [(7, .pointer (some ⟨wo.heap.size + 1, 0, none⟩))] a' → CD wo w' bn m (.int .i64 (fc : Nat)) (.int .i64 (fi : Nat)) → Q .normal a' w') : ∀ ac, Frm 133 [(7, .pointer (some ⟨wo.heap.size + 1, 0, none⟩)), (17, .pointer (some ⟨gf, 0, none⟩))] ac → Code.wp Tryd.prog c_ck_r34 Q ac w := by
  refine frm_open ?_
  refine frame_ck ?_
  intros
  rename_i hq
  obtain ⟨-, -, e0q, e1q, -⟩ := hq
  obtain rfl := sI e0q
  obtain rfl := sI e1q
  conv => arg 2; whnf
  have g0 := cellv hgf 0 rfl
  have g1 := cellv hgf 1 rfl
  have gl := lt_heap hgf
  clear hgf
  have rc0 := cellv hs.r 0 rfl
  have rc1 := cellv hs.r 1 rfl
  have rf0 := free_heap hs.r 0
  have rf1 := free_heap hs.r 1
  have rl := lt_heap hs.r
  have HS := Lib.hid hs
  clear hs
  have HN := Lib.hid hN
  clear hN
  go_wp2_with fail
  exact HN.out _ _ (id ⟨rfl, rfl, rfl, trivial⟩) (HS.out.put _ _)
noncomputable def c_ck_r35 : Code := sub [1, 1, 1, 1, 1, 1, 1, 1, 1, 1, 1, 1, 1, 0, 1, 0, 0, 1, 1, 1] (Tryd.f100.body.getD .skip)
set_option maxRecDepth 1000000 in
set_option maxHeartbeats 16000000 in
theorem ck_r35_wp {Q : Exit → Act → World → Prop} {i bn bo bw d : Nat} {wo w : World} {B : Option Addr} {n2 c2 : Nat} (hi : i < n2) (hlim : n2 ≤ maxLen) (hN : ∀ a', Frm 133 [(1, .int .i64 (d : Nat)), (2, .pointer (some ⟨bn, 0, none⟩)), (3, .pointer (some ⟨bo, 0, none⟩)), (4, .pointer (some ⟨bw, 0, none⟩)), (5, .pointer (some ⟨wo.heap.size, 0, none⟩)), (7, .pointer (some ⟨wo.heap.size + 1, 0, none⟩)), (9, (.func (Fn.func 101) #[] #[.pointer (some ⟨wo.heap.size + 1 + 1, 0, none⟩)])), (116, .slice B n2 c2), (117, .int .i64 (n2 : Nat)), (118, .int .i64 (i + 1 : Nat))] a' → Q .normal a' w) : ∀ ac, Frm 133 [(1, .int .i64 (d : Nat)), (2, .pointer (some ⟨bn, 0, none⟩)), (3, .pointer (some ⟨bo, 0, none⟩)), (4, .pointer (some ⟨bw, 0, none⟩)), (5, .pointer (some ⟨wo.heap.size, 0, none⟩)), (7, .pointer (some ⟨wo.heap.size + 1, 0, none⟩)), (9, (.func (Fn.func 101) #[] #[.pointer (some ⟨wo.heap.size + 1 + 1, 0, none⟩)])), (116, .slice B n2 c2), (117, .int .i64 (n2 : Nat)), (118, .int .i64 (i : Nat))] ac → Code.wp Tryd.prog c_ck_r35 Q ac w := by
  refine frm_open ?_
  refine frame_ck ?_
  intros
  rename_i hq
  obtain ⟨-, -, e0q, e1q, e2q, e3q, e4q, e5q, e6q, e7q, e8q, e9q, -⟩ := hq
  obtain rfl := sI e0q
  obtain rfl := sI e1q
  obtain rfl := sI e2q
  obtain rfl := sI e3q
  obtain rfl := sI e4q
  obtain rfl := sI e5q
  obtain rfl := sI e6q
  obtain rfl := sI e7q
  obtain rfl := sI e8q
  obtain rfl := sI e9q
  conv => arg 2; whnf
  have hi4 : (i : Int) ≤ 9223372036854775806 := by unfold maxLen at hlim; omega
  have HN := Lib.hid hN
  clear hN
  go_wp2_with fail
  exact HN.out _ (id ⟨rfl, rfl, rfl, rfl, rfl, rfl, rfl, rfl, rfl, rfl, rfl, rfl, trivial⟩)
noncomputable def c_ck_r36 : Code := sub [1, 1, 1, 1, 1, 1, 1, 1, 1, 1, 1, 1, 1, 1, 0] (Tryd.f100.body.getD .skip)
set_option maxRecDepth 1000000 in
set_option maxHeartbeats 16000000 in
theorem ck_r36_wp {Q : Exit → Act → World → Prop} {bn bo bw d n m : Nat} {wo w : World} {kd : Int} {nm : ByteArray} {A B : Option Addr} {n1 c1 n2 c2 : Nat} (hs : CS wo w bn kd nm A n1 c1 B n2 c2 n m) (hN : ∀ a' w', Frm 133 [(7, .pointer (some ⟨wo.heap.size + 1, 0, none⟩))] a' → CD wo w' bn m (.int .i64 0) (.int .i64 0) → Q .normal a' w') : ∀ ac, Frm 133 [(1, .int .i64 (d : Nat)), (2, .pointer (some ⟨bn, 0, none⟩)), (3, .pointer (some ⟨bo, 0, none⟩)), (4, .pointer (some ⟨bw, 0, none⟩)), (5, .pointer (some ⟨wo.heap.size, 0, none⟩)), (7, .pointer (some ⟨wo.heap.size + 1, 0, none⟩)), (9, (.func (Fn.func 101) #[] #[.pointer (some ⟨wo.heap.size + 1 + 1, 0, none⟩)]))] ac → Code.wp Tryd.prog c_ck_r36 Q ac w := by
  refine frm_open ?_
  refine frame_ck ?_
  intros
  rename_i hq
  obtain ⟨-, -, e0q, e1q, e2q, e3q, e4q, e5q, e6q, -⟩ := hq
  obtain rfl := sI e0q
  obtain rfl := sI e1q
  obtain rfl := sI e2q
  obtain rfl := sI e3q
  obtain rfl := sI e4q
  obtain rfl := sI e5q
  obtain rfl := sI e6q
  conv => arg 2; whnf
  have rc0 := cellv hs.r 0 rfl
  have rc1 := cellv hs.r 1 rfl
  have rf0 := free_heap hs.r 0
  have rf1 := free_heap hs.r 1
  have rl := lt_heap hs.r
  have HS := Lib.hid hs
  clear hs
  have HN := Lib.hid hN
  clear hN
  go_wp2_with fail
  exact HN.out _ _ (id ⟨rfl, rfl, rfl, trivial⟩) (HS.out.put _ _)
set_option maxRecDepth 1000000 in
theorem ck_ret_wp {R : Ending → World → Prop} {w' : World} {g : Nat} {f0 f1 : Int} (hg : w'.heap[g]? = some (.cells #[.int .i64 f0, .int .i64 f1] 31 (0, 0))) (hR : R (.returned (.agg #[.int .i64 f0, .int .i64 f1])) w') : ∀ ac, Frm 133 [(7, .pointer (some ⟨g, 0, none⟩))] ac → bodyPost Tryd.prog Tryd.f100 R .ret ac w' := by
  refine frm_open ?_
  refine frame_ck ?_
  intros
  rename_i hq
  obtain ⟨-, -, e0q, -⟩ := hq
  obtain rfl := sI e0q
  have z0 := cellv hg 0 rfl
  have z1 := cellv hg 1 rfl
  have zl := lt_heap hg
  refine bodyPost_ret (v := .agg #[.int .i64 f0, .int .i64 f1]) (by simp [results, Tryd.results100, go_sem, z0, z1, zl]) rfl ?_
  exact hR
end

section
open Go Go.RowKit
set_option linter.unusedSimpArgs false
set_option linter.unusedVariables false
noncomputable def c_ck_wl : Code := sub [1, 1, 1, 1, 1, 1, 1, 1, 1, 1, 1, 1, 0, 1, 0] (Tryd.f100.body.getD .skip)
set_option maxRecDepth 100000 in
set_option maxHeartbeats 4000000 in
theorem ck_wl_wp {Q : Exit → Act → World → Prop} {S : Nat → Prop} {bn bo bw d n m : Nat} {wo w : World} {kd : Int} {nm : ByteArray} {A B : Option Addr} {n1 c1 n2 c2 : Nat} {ws : List ByteArray} (hs : CS wo w bn kd nm A n1 c1 B n2 c2 n m) (hS : ∀ b, S b → b < w.heap.size) (hw : strRep.Sl w S (.slice A n1 c1) ws)
    (hX : ws.all okName = true → ∀ a', Frm 133 [(1, .int .i64 (d : Nat)), (2, .pointer (some ⟨bn, 0, none⟩)), (3, .pointer (some ⟨bo, 0, none⟩)), (4, .pointer (some ⟨bw, 0, none⟩)), (5, .pointer (some ⟨wo.heap.size, 0, none⟩)), (7, .pointer (some ⟨wo.heap.size + 1, 0, none⟩)), (9, (.func (Fn.func 101) #[] #[.pointer (some ⟨wo.heap.size + 1 + 1, 0, none⟩)]))] a' → Q (.exit 0) a' w) (hR : ws.all okName = false → ∀ a' w', Frm 133 [(7, .pointer (some ⟨wo.heap.size + 1, 0, none⟩))] a' → CD wo w' bn m (.int .i64 10) (.int .i64 (n : Nat)) → Q .ret a' w') : ∀ ac, Frm 133 [(1, .int .i64 (d : Nat)), (2, .pointer (some ⟨bn, 0, none⟩)), (3, .pointer (some ⟨bo, 0, none⟩)), (4, .pointer (some ⟨bw, 0, none⟩)), (5, .pointer (some ⟨wo.heap.size, 0, none⟩)), (7, .pointer (some ⟨wo.heap.size + 1, 0, none⟩)), (9, (.func (Fn.func 101) #[] #[.pointer (some ⟨wo.heap.size + 1 + 1, 0, none⟩)])), (103, .slice A n1 c1), (104, .int .i64 (n1 : Nat)), (105, .int .i64 (0 : Nat))] ac → Code.wp Tryd.prog c_ck_wl Q ac w := by
  intro a0 hf0
  conv => arg 2; whnf
  obtain ⟨A', n', c', e, hlen, hmax, _⟩ := id hw
  injection e with e1 e2 e3
  subst e1 e2 e3
  refine wp_loopR (fun g a' w' => ∃ j : Nat, j + g = ws.length ∧ (ws.take j).all okName = true ∧ w' = w ∧ Frm 133 [(1, .int .i64 (d : Nat)), (2, .pointer (some ⟨bn, 0, none⟩)), (3, .pointer (some ⟨bo, 0, none⟩)), (4, .pointer (some ⟨bw, 0, none⟩)), (5, .pointer (some ⟨wo.heap.size, 0, none⟩)), (7, .pointer (some ⟨wo.heap.size + 1, 0, none⟩)), (9, (.func (Fn.func 101) #[] #[.pointer (some ⟨wo.heap.size + 1 + 1, 0, none⟩)])), (103, .slice A n1 c1), (104, .int .i64 (n1 : Nat)), (105, .int .i64 (j : Nat))] a') ws.length ⟨0, by omega, rfl, rfl, hf0⟩ ?_
  rintro g a1 w1 ⟨j, hjg, hall, rfl, h1⟩
  refine wp_seq ?_
  refine ck_r24_wp (fun a2 h2 => ?_) a1 h1
  refine wp_seq ?_
  by_cases hj : j < n1
  case neg =>
    refine wp_cond_false ((h2.eval (k := 106) (v := .bool (decide (j < n1))) (by simp)).trans (by rw [decide_eq_false hj])) ?_
    refine wp_exit (hX ?_ a2 ⟨h2.1, h2.2.1, h2.2.2.1, h2.2.2.2.1, h2.2.2.2.2.1, h2.2.2.2.2.2.1, h2.2.2.2.2.2.2.1, h2.2.2.2.2.2.2.2.1, h2.2.2.2.2.2.2.2.2.1, trivial⟩)
    rwa [List.take_of_length_le (by omega)] at hall
  refine wp_cond_true ((h2.eval (k := 106) (v := .bool (decide (j < n1))) (by simp)).trans (by rw [decide_eq_true hj])) ?_
  refine wp_skip ?_
  show Code.wp _ _ _ a2 w1
  obtain ⟨b, o, cs, rfl, hSb, ⟨rfl, hsz⟩, hc⟩ := Rep.Sl.at_ hw (List.getElem?_eq_getElem (by omega : j < ws.length))
  have hc0 : w1.cell? ⟨b, o + j, none⟩ = some (.string ws[j]) := by simpa [strRep] using hc 0 _ rfl
  refine wp_seq ?_
  refine wp_block ?_
  refine wp_seq ?_
  refine ck_r25_wp hj hc0 (hS b hSb) (fun a3 h3 => ?_) a2 ⟨h2.1, h2.2.1, h2.2.2.1, h2.2.2.2.1, h2.2.2.2.2.1, h2.2.2.2.2.2.1, h2.2.2.2.2.2.2.1, h2.2.2.2.2.2.2.2.1, h2.2.2.2.2.2.2.2.2.1, h2.2.2.2.2.2.2.2.2.2.1, h2.2.2.2.2.2.2.2.2.2.2.1, h2.2.2.2.2.2.2.2.2.2.2.2.1, trivial⟩
  refine wp_seq ?_
  refine ck_r26_wp hsz (fun a4 h4 => ?_) a3 h3
  have htk : (ws.take (j + 1)).all okName = okName ws[j] := by
    rw [List.take_succ_eq_append_getElem (by omega), List.all_append, hall]
    simp
  cases hok : okName ws[j]
  · rw [hok] at h4
    refine wp_cond_true ((h4.eval (k := 111) (v := .bool (!false)) (by simp)).trans (by rw [show (!false) = true from rfl])) ?_
    refine wp_seq ?_
    refine ck_r27_wp hs (fun a5 w5 h5 hd5 => ?_) a4 ⟨h4.1, h4.2.1, h4.2.2.1, h4.2.2.2.1, h4.2.2.2.2.1, h4.2.2.2.2.2.1, h4.2.2.2.2.2.2.1, h4.2.2.2.2.2.2.2.1, h4.2.2.2.2.2.2.2.2.1, trivial⟩
    refine wp_ret ?_
    refine hR ?_ a5 w5 h5 hd5
    rw [hok] at htk
    rw [Bool.eq_false_iff]
    intro hx
    rw [List.all_eq_true] at hx
    have : (ws.take (j + 1)).all okName = true := List.all_eq_true.2 (fun y hy => hx y (List.mem_of_mem_take hy))
    rw [this] at htk
    cases htk
  · rw [hok] at h4
    refine wp_cond_false ((h4.eval (k := 111) (v := .bool (!true)) (by simp)).trans (by rw [show (!true) = false from rfl])) ?_
    refine wp_skip ?_
    show Code.wp _ _ _ a4 w1
    refine ck_r28_wp hj (by omega) (fun a5 h5 => ?_) a4 ⟨h4.1, h4.2.1, h4.2.2.1, h4.2.2.2.1, h4.2.2.2.2.1, h4.2.2.2.2.2.1, h4.2.2.2.2.2.2.1, h4.2.2.2.2.2.2.2.1, h4.2.2.2.2.2.2.2.2.1, h4.2.2.2.2.2.2.2.2.2.1, h4.2.2.2.2.2.2.2.2.2.2.1, h4.2.2.2.2.2.2.2.2.2.2.2.1, trivial⟩
    exact ⟨g - 1, by omega, j + 1, by omega, by rw [htk, hok], rfl, h5⟩
noncomputable def c_ck_sl : Code := sub [1, 1, 1, 1, 1, 1, 1, 1, 1, 1, 1, 1, 1, 0, 1, 0] (Tryd.f100.body.getD .skip)
set_option maxRecDepth 100000 in
set_option maxHeartbeats 4000000 in
theorem ck_sl_wp {Q : Exit → Act → World → Prop} {S : Nat → Prop} {hole : Bool} {bn bo bw d n m : Nat} {wo w : World} {kd : Int} {nm : ByteArray} {A B : Option Addr} {n1 c1 n2 c2 : Nat} {l : List Fm} (hd : d ≤ 50) (hm : m ≤ 200) (hs : CS wo w bn kd nm A n1 c1 B n2 c2 n m) (hS : ∀ b, S b → b < wo.heap.size ∧ b ≠ bn) (hl : fmRep.Sl wo S (.slice B n2 c2) l) (ho : wo.heap[bo]? = some (.cells #[.bool hole] 4 (0, 0))) (hf : wo.heap[bw]? = some (.cells #[.func (Fn.func 100) #[] #[.pointer (some ⟨bn, 0, none⟩), .pointer (some ⟨bo, 0, none⟩), .pointer (some ⟨bw, 0, none⟩)]] 110 (0, 0))) (hne : bn ≠ bw) (hno : bn ≠ bo) (ih : ∀ (t : Fm) (cs : List Value) (W : World) (n : Nat), t ∈ l → fmRep.R W S t cs → (∀ b, S b → b < W.heap.size ∧ b ≠ bn) → W.heap[bn]? = some (.cells #[.int .i64 n] 3 (0, 0)) → W.heap[bo]? = some (.cells #[.bool hole] 4 (0, 0)) → W.heap[bw]? = some (.cells #[.func (Fn.func 100) #[] #[.pointer (some ⟨bn, 0, none⟩), .pointer (some ⟨bo, 0, none⟩), .pointer (some ⟨bw, 0, none⟩)]] 110 (0, 0)) → n ≤ 200 → Calls Tryd.prog 100 #[.agg cs.toArray, .int .i64 ((d : Int) + 1), .pointer (some ⟨bn, 0, none⟩), .pointer (some ⟨bo, 0, none⟩), .pointer (some ⟨bw, 0, none⟩)] W fun e w' => e = .returned (.agg #[.int .i64 ((fmVal hole t (d + 1) n).1 : Nat), .int .i64 ((fmVal hole t (d + 1) n).2.1 : Nat)]) ∧ w'.heap[bn]? = some (.cells #[.int .i64 ((fmVal hole t (d + 1) n).2.2 : Nat)] 3 (0, 0)) ∧ Keeps (· = bn) W w') 
    (hX : ∀ m' a' w', fmVals hole l (d + 1) m = (0, 0, m') → Frm 133 [(1, .int .i64 (d : Nat)), (2, .pointer (some ⟨bn, 0, none⟩)), (3, .pointer (some ⟨bo, 0, none⟩)), (4, .pointer (some ⟨bw, 0, none⟩)), (5, .pointer (some ⟨wo.heap.size, 0, none⟩)), (7, .pointer (some ⟨wo.heap.size + 1, 0, none⟩)), (9, (.func (Fn.func 101) #[] #[.pointer (some ⟨wo.heap.size + 1 + 1, 0, none⟩)]))] a' → CS wo w' bn kd nm A n1 c1 B n2 c2 n m' → Q (.exit 2) a' w') (hR : ∀ c at_ m', c ≠ 0 → fmVals hole l (d + 1) m = (c, at_, m') → ∀ a' w', Frm 133 [(7, .pointer (some ⟨wo.heap.size + 1, 0, none⟩))] a' → CD wo w' bn m' (.int .i64 (c : Nat)) (.int .i64 (at_ : Nat)) → Q .ret a' w') : ∀ ac, Frm 133 [(1, .int .i64 (d : Nat)), (2, .pointer (some ⟨bn, 0, none⟩)), (3, .pointer (some ⟨bo, 0, none⟩)), (4, .pointer (some ⟨bw, 0, none⟩)), (5, .pointer (some ⟨wo.heap.size, 0, none⟩)), (7, .pointer (some ⟨wo.heap.size + 1, 0, none⟩)), (9, (.func (Fn.func 101) #[] #[.pointer (some ⟨wo.heap.size + 1 + 1, 0, none⟩)])), (116, .slice B n2 c2), (117, .int .i64 (n2 : Nat)), (118, .int .i64 (0 : Nat))] ac → Code.wp Tryd.prog c_ck_sl Q ac w := by
  intro a0 hf0
  conv => arg 2; whnf
  obtain ⟨B', n', c', e, hlen, hmax, _⟩ := id hl
  injection e with e1 e2 e3
  subst e1 e2 e3
  refine wp_loopR (fun g a' w' => ∃ j m' : Nat, j + g = l.length ∧ fmVals hole (l.take j) (d + 1) m = (0, 0, m') ∧ CS wo w' bn kd nm A n1 c1 B n2 c2 n m' ∧ Frm 133 [(1, .int .i64 (d : Nat)), (2, .pointer (some ⟨bn, 0, none⟩)), (3, .pointer (some ⟨bo, 0, none⟩)), (4, .pointer (some ⟨bw, 0, none⟩)), (5, .pointer (some ⟨wo.heap.size, 0, none⟩)), (7, .pointer (some ⟨wo.heap.size + 1, 0, none⟩)), (9, (.func (Fn.func 101) #[] #[.pointer (some ⟨wo.heap.size + 1 + 1, 0, none⟩)])), (116, .slice B n2 c2), (117, .int .i64 (n2 : Nat)), (118, .int .i64 (j : Nat))] a') l.length ⟨0, m, by omega, by simp [fmVals], hs, hf0⟩ ?_
  rintro g a1 w1 ⟨j, m1, hjg, hv, hs1, h1⟩
  have hm1 : m1 ≤ 200 := by have := ((fmVals_le hole (l.take j) (d + 1) m hm).2 (by rw [hv])).1; rw [hv] at this; exact this
  refine wp_seq ?_
  refine ck_r30_wp (fun a2 h2 => ?_) a1 h1
  refine wp_seq ?_
  by_cases hj : j < n2
  case neg =>
    refine wp_cond_false ((h2.eval (k := 119) (v := .bool (decide (j < n2))) (by simp)).trans (by rw [decide_eq_false hj])) ?_
    refine wp_exit (hX m1 a2 w1 ?_ ⟨h2.1, h2.2.1, h2.2.2.1, h2.2.2.2.1, h2.2.2.2.2.1, h2.2.2.2.2.2.1, h2.2.2.2.2.2.2.1, h2.2.2.2.2.2.2.2.1, h2.2.2.2.2.2.2.2.2.1, trivial⟩ hs1)
    rwa [List.take_of_length_le (by omega)] at hv
  refine wp_cond_true ((h2.eval (k := 119) (v := .bool (decide (j < n2))) (by simp)).trans (by rw [decide_eq_true hj])) ?_
  refine wp_skip ?_
  show Code.wp _ _ _ a2 w1
  have hjl : j < l.length := by omega
  obtain ⟨b, o, cs, rfl, hSb, hr, hc⟩ := Rep.Sl.at_ hl (List.getElem?_eq_getElem hjl)
  obtain ⟨Ae, n3, c3, Be, n4, c4, rfl, _, _, _, _⟩ := Fm.shape hr
  have hold := hs1.old hS
  have hlo : ∀ b, S b → b < w1.heap.size := fun b hb => by have := (hS b hb).1; have := hs1.k.size; omega
  have hk1 := hold b hSb
  have e0 : w1.cell? ⟨b, o + j * 4, none⟩ = _ := (cell_keep hk1 _).trans (hc 0 _ rfl)
  have e1 : w1.cell? ⟨b, o + j * 4 + 1, none⟩ = _ := (cell_keep hk1 _).trans (hc 1 _ rfl)
  have e2 : w1.cell? ⟨b, o + j * 4 + 2, none⟩ = _ := (cell_keep hk1 _).trans (hc 2 _ rfl)
  have e3 : w1.cell? ⟨b, o + j * 4 + 3, none⟩ = _ := (cell_keep hk1 _).trans (hc 3 _ rfl)
  refine wp_seq ?_
  refine wp_block ?_
  refine wp_seq ?_
  refine ck_r31_wp hj e0 e1 e2 e3 (hlo b hSb) (fun a3 h3 => ?_) a2 ⟨h2.1, h2.2.1, h2.2.2.1, h2.2.2.2.1, h2.2.2.2.2.1, h2.2.2.2.2.2.1, h2.2.2.2.2.2.2.1, h2.2.2.2.2.2.2.2.1, h2.2.2.2.2.2.2.2.2.1, h2.2.2.2.2.2.2.2.2.2.1, h2.2.2.2.2.2.2.2.2.2.2.1, h2.2.2.2.2.2.2.2.2.2.2.2.1, trivial⟩
  have hs3 := hs1.below ((Below.refl _ w1).alloc (Nat.le_refl _) (.cells #[.int .i64 l[j].lab.kind, .string l[j].lab.nm, .slice Ae n3 c3, .slice Be n4 c4] 29))
  have hge := heap_alloc_new w1 (.cells #[.int .i64 l[j].lab.kind, .string l[j].lab.nm, .slice Ae n3 c3, .slice Be n4 c4] 29)
  have hlw := lt_heap hf
  have hlo2 := lt_heap ho
  have hf3 := (hs3.k.block bw hlw (fun e => hne e.symm)).trans hf
  have ho3 := (hs3.k.block bo hlo2 (fun e => hno e.symm)).trans ho
  have hcall := ih l[j] _ _ m1 (List.getElem_mem hjl) (fmRep.keep hr (fun b hb => hs3.old hS b hb) (fun _ h => h)) (fun b hb => ⟨by have := hlo b hb; simp; omega, (hS b hb).2⟩) hs3.c ho3 hf3 hm1
  refine wp_seq ?_
  refine ck_r32_wp hs3 hd hf3 hge hcall (fun gf a4 w4 h4 hs4 hgf => ?_) a3 h3
  have htk := fmVals_take hole l j hjl (d + 1) m (by rw [hv])
  rw [hv] at htk
  simp only at htk
  rw [fmVals_one _ _ _ _ hm1] at htk
  refine wp_seq ?_
  refine ck_r33_wp hgf (fun a5 h5 => ?_) a4 h4
  by_cases hcz : (fmVal hole l[j] (d + 1) m1).1 ≠ 0
  · refine wp_cond_true ((h5.eval (k := 129) (v := .bool (decide ((fmVal hole l[j] (d + 1) m1).1 ≠ 0))) (by simp)).trans (by rw [decide_eq_true hcz])) ?_
    refine wp_seq ?_
    refine ck_r34_wp hs4 hgf (fun a6 w6 h6 hd6 => ?_) a5 ⟨h5.1, h5.2.1, h5.2.2.2.2.2.2.2.1, h5.2.2.2.2.2.2.2.2.2.2.2.2.1, trivial⟩
    refine wp_ret ?_
    refine hR _ _ _ hcz ?_ a6 w6 h6 hd6
    rw [fmVals_bad hole l (j + 1) (d + 1) m (by rw [htk]; exact hcz), htk]
  · refine wp_cond_false ((h5.eval (k := 129) (v := .bool (decide ((fmVal hole l[j] (d + 1) m1).1 ≠ 0))) (by simp)).trans (by rw [decide_eq_false hcz])) ?_
    refine wp_skip ?_
    show Code.wp _ _ _ a5 w4
    refine ck_r35_wp hj (by omega) (fun a6 h6 => ?_) a5 ⟨h5.1, h5.2.1, h5.2.2.1, h5.2.2.2.1, h5.2.2.2.2.1, h5.2.2.2.2.2.1, h5.2.2.2.2.2.2.1, h5.2.2.2.2.2.2.2.1, h5.2.2.2.2.2.2.2.2.1, h5.2.2.2.2.2.2.2.2.2.1, h5.2.2.2.2.2.2.2.2.2.2.1, h5.2.2.2.2.2.2.2.2.2.2.2.1, trivial⟩
    have hz : (fmVal hole l[j] (d + 1) m1).1 = 0 := Decidable.not_not.1 hcz
    refine ⟨g - 1, by omega, j + 1, _, by omega, ?_, hs4, h6⟩
    rw [htk]
    have := ((fmVal_le hole l[j] (d + 1) m1 hm1).2 hz).2
    exact Prod.ext hz (Prod.ext this rfl)
noncomputable def c_ck_p9 : Code := sub [1, 1, 1, 1, 1, 1, 1] (Tryd.f100.body.getD .skip)
noncomputable def c_ck_p16 : Code := sub [1, 1, 1, 1, 1, 1, 1, 1, 1, 1] (Tryd.f100.body.getD .skip)
noncomputable def c_ck_p23 : Code := sub [1, 1, 1, 1, 1, 1, 1, 1, 1, 1, 1, 1] (Tryd.f100.body.getD .skip)
set_option maxRecDepth 100000 in
set_option maxHeartbeats 4000000 in
theorem fmVal_any (hole : Bool) : ∀ (N : Nat) (t : Fm) (cs : List Value) (w : World) (S : Nat → Prop) (bn bo bw d n : Nat), t.nodes ≤ N → fmRep.R w S t cs → (∀ b, S b → b < w.heap.size ∧ b ≠ bn) →
    w.heap[bn]? = some (.cells #[.int .i64 n] 3 (0, 0)) → w.heap[bo]? = some (.cells #[.bool hole] 4 (0, 0)) → w.heap[bw]? = some (.cells #[.func (Fn.func 100) #[] #[.pointer (some ⟨bn, 0, none⟩), .pointer (some ⟨bo, 0, none⟩), .pointer (some ⟨bw, 0, none⟩)]] 110 (0, 0)) → bn ≠ bw → bn ≠ bo → d ≤ 41 → n ≤ 200 →
    Calls Tryd.prog 100 #[.agg cs.toArray, .int .i64 (d : Nat), .pointer (some ⟨bn, 0, none⟩), .pointer (some ⟨bo, 0, none⟩), .pointer (some ⟨bw, 0, none⟩)] w (fun e w' => e = .returned (.agg #[.int .i64 ((fmVal hole t d n).1 : Nat), .int .i64 ((fmVal hole t d n).2.1 : Nat)]) ∧ w'.heap[bn]? = some (.cells #[.int .i64 ((fmVal hole t d n).2.2 : Nat)] 3 (0, 0)) ∧ Keeps (· = bn) w w') := by
  intro N
  induction N with
  | zero => intro t; have := t.nodes_pos; intros; omega
  | succ N ih =>
  intro t cs w S bn bo bw d n hN ht hS hb ho hf hne hno hd hn
  obtain ⟨⟨kd, nm, ws⟩, l⟩ := t
  obtain ⟨u, v, rfl, hnm, hw, hl⟩ := Fm.open_ ht
  simp only at hw hnm
  obtain ⟨A, n1, c1, rfl, e1, hm1, _⟩ := id hw
  obtain ⟨B, n2, c2, rfl, e2, hm2, _⟩ := id hl
  have hfin : ∀ (c at_ m' : Nat) (a' : Act) (w' : World), fmVal hole (.mk ⟨kd, nm, ws⟩ l) d n = (c, at_, m') → Frm 133 [(7, .pointer (some ⟨w.heap.size + 1, 0, none⟩))] a' → CD w w' bn m' (.int .i64 (c : Nat)) (.int .i64 (at_ : Nat)) → bodyPost Tryd.prog Tryd.f100 (fun e w' => e = .returned (.agg #[.int .i64 ((fmVal hole (.mk ⟨kd, nm, ws⟩ l) d n).1 : Nat), .int .i64 ((fmVal hole (.mk ⟨kd, nm, ws⟩ l) d n).2.1 : Nat)]) ∧ w'.heap[bn]? = some (.cells #[.int .i64 ((fmVal hole (.mk ⟨kd, nm, ws⟩ l) d n).2.2 : Nat)] 3 (0, 0)) ∧ Keeps (· = bn) w w') .ret a' w' := by
    intro c at_ m' a' w' e h hd'
    rw [e]
    exact ck_ret_wp hd'.r ⟨rfl, hd'.c, hd'.k⟩ a' h
  clear ht
  go_enter Tryd.func100, Tryd.ntmps100
  have hbl := lt_heap hb
  refine wp_seq ?_
  refine ck_r0_wp (fun a0 h0 => ?_) _ (id ⟨rfl, rfl, rfl, rfl, rfl, rfl, rfl, trivial⟩)
  refine wp_seq ?_
  have hb1 : ((w.alloc (.cells #[.int .i64 kd, .string nm, .slice A n1 c1, .slice B n2 c2] 29)).alloc (.cells #[.int .i64 0, .int .i64 0] 31)).heap[bn]? = some (.cells #[.int .i64 n] 3 (0, 0)) := heap_old (by simp; omega) (heap_old hbl hb)
  refine ck_r1_wp hb1 (fun a1 h1 => ?_) a0 h0
  rw [show ((w.alloc (.cells #[.int .i64 kd, .string nm, .slice A n1 c1, .slice B n2 c2] 29)).alloc (.cells #[.int .i64 0, .int .i64 0] 31)).heap.size = w.heap.size + 1 + 1 from by simp] at h1
  refine wp_seq ?_
  refine ck_r2_wp hn (heap_old (by simp; omega) hb1) (fun a2 h2 => ?_) a1 h1
  refine gen_last (fun wx => CS w wx bn kd nm A n1 c1 B n2 c2 n (n + 1)) (CS.start hb) ?_
  intro w3 hs
  refine wp_seq ?_
  refine ck_r3_wp (fun a3 h3 => ?_) a2 h2
  refine wp_seq ?_
  refine wp_seq ?_
  refine ck_r4_wp hs (fun a4 h4 => ?_) a3 h3
  by_cases hlim : 200 < n + 1 ∨ 40 < d
  · refine wp_cond_true ((h4.eval (k := 27) (v := .bool (decide (200 < n + 1 ∨ 40 < d))) (by simp)).trans (by rw [decide_eq_true hlim])) ?_
    refine wp_seq ?_
    refine ck_r5_wp hs (fun a' w' h' hd' => ?_) a4 ⟨h4.1, h4.2.1, h4.2.2.1, h4.2.2.2.1, h4.2.2.2.2.1, h4.2.2.2.2.2.1, h4.2.2.2.2.2.2.1, h4.2.2.2.2.2.2.2.1, h4.2.2.2.2.2.2.2.2.1, trivial⟩
    refine wp_ret ?_
    exact hfin 1 n (n + 1) a' w' (by unfold fmVal; rw [if_pos hlim]) h' hd'
  refine wp_cond_false ((h4.eval (k := 27) (v := .bool (decide (200 < n + 1 ∨ 40 < d))) (by simp)).trans (by rw [decide_eq_false hlim])) ?_
  refine wp_skip ?_
  show Code.wp _ _ _ a4 w3
  have hcode : ∀ c : Nat, c ≠ 0 → FmL.code hole ⟨kd, nm, ws⟩ l.length = c → fmVal hole (.mk ⟨kd, nm, ws⟩ l) d n = (c, n, n + 1) := by
    intro c h0 hc
    unfold fmVal
    rw [if_neg hlim, hc, if_neg h0]
  have hrest : FmL.code hole ⟨kd, nm, ws⟩ l.length = 0 → fmVal hole (.mk ⟨kd, nm, ws⟩ l) d n = fmVals hole l (d + 1) (n + 1) := by
    intro hc
    conv => lhs; unfold fmVal
    rw [if_neg hlim, if_pos hc]
  have p23 : ∀ (a5 : Act) (w5 : World), CS w w5 bn kd nm A n1 c1 B n2 c2 n (n + 1) → (ws.all okName = false → FmL.code hole ⟨kd, nm, ws⟩ l.length = 10) → (ws.all okName = true → FmL.code hole ⟨kd, nm, ws⟩ l.length = 0) → Frm 133 [(1, .int .i64 (d : Nat)), (2, .pointer (some ⟨bn, 0, none⟩)), (3, .pointer (some ⟨bo, 0, none⟩)), (4, .pointer (some ⟨bw, 0, none⟩)), (5, .pointer (some ⟨w.heap.size, 0, none⟩)), (7, .pointer (some ⟨w.heap.size + 1, 0, none⟩)), (9, (.func (Fn.func 101) #[] #[.pointer (some ⟨w.heap.size + 1 + 1, 0, none⟩)]))] a5 → Code.wp Tryd.prog c_ck_p23 (bodyPost Tryd.prog Tryd.f100 (fun e w' => e = .returned (.agg #[.int .i64 ((fmVal hole (.mk ⟨kd, nm, ws⟩ l) d n).1 : Nat), .int .i64 ((fmVal hole (.mk ⟨kd, nm, ws⟩ l) d n).2.1 : Nat)]) ∧ w'.heap[bn]? = some (.cells #[.int .i64 ((fmVal hole (.mk ⟨kd, nm, ws⟩ l) d n).2.2 : Nat)] 3 (0, 0)) ∧ Keeps (· = bn) w w')) a5 w5 := by
    intro a5 w5 hs hc1 hc0 h5
    conv => arg 2; whnf
    refine wp_seq ?_
    refine wp_seq ?_
    refine ck_r23_wp hs (fun a6 h6 => ?_) a5 h5
    refine wp_block ?_
    refine ck_wl_wp hs (S := S) (fun b hb => by have := (hS b hb).1; have := hs.k.size; omega) (hw.keep (hs.old hS) (fun _ h => h)) (fun hall a7 h7 => ?_) (fun hall a7 w7 h7 hd7 => ?_) a6 h6
    case refine_2 => exact hfin 10 n (n + 1) a7 w7 (hcode 10 (by decide) (hc1 hall)) h7 hd7
    refine inBlock_exit ?_
    show Code.wp _ _ _ a7 w5
    refine wp_seq ?_
    refine wp_seq ?_
    refine ck_r29_wp hs (fun a8 h8 => ?_) a7 h7
    refine wp_block ?_
    refine ck_sl_wp (by omega) (by omega) hs hS hl ho hf hne hno (fun t cs W n' htl hr hS' hb' ho' hf' hn' => ?_) (fun m' a9 w9 e h9 hs9 => ?_) (fun c at_ m' hc e a9 w9 h9 hd9 => ?_) a8 h8
    · have hnd : t.nodes ≤ N := by
        obtain ⟨j, hj, rfl⟩ := List.getElem_of_mem htl
        have := Tree.nodes_at l j hj
        simp [Tree.nodes] at hN
        omega
      exact ih t cs W S bn bo bw (d + 1) n' hnd hr hS' hb' ho' hf' hne hno (by omega) hn'
    · refine inBlock_exit ?_
      show Code.wp _ _ _ a9 w9
      refine wp_seq ?_
      refine ck_r36_wp hs9 (fun a10 w10 h10 hd10 => ?_) a9 h9
      refine wp_ret ?_
      exact hfin 0 0 m' a10 w10 (by rw [hrest (hc0 hall), e]) h10 hd10
    · exact hfin c at_ m' a9 w9 (by rw [hrest (hc0 hall), e]) h9 hd9
  refine wp_seq ?_
  refine ck_r6_wp hs (fun a5 h5 => ?_) a4 ⟨h4.1, h4.2.1, h4.2.2.1, h4.2.2.2.1, h4.2.2.2.2.1, h4.2.2.2.2.2.1, h4.2.2.2.2.2.2.1, h4.2.2.2.2.2.2.2.1, h4.2.2.2.2.2.2.2.2.1, trivial⟩
  have p16 : ∀ (a5 : Act) (k : Nat), subsF hole kd = some k → Frm 133 [(1, .int .i64 (d : Nat)), (2, .pointer (some ⟨bn, 0, none⟩)), (3, .pointer (some ⟨bo, 0, none⟩)), (4, .pointer (some ⟨bw, 0, none⟩)), (5, .pointer (some ⟨w.heap.size, 0, none⟩)), (7, .pointer (some ⟨w.heap.size + 1, 0, none⟩)), (9, (.func (Fn.func 101) #[] #[.pointer (some ⟨w.heap.size + 1 + 1, 0, none⟩)])), (10, .int .i64 (k : Nat)), (11, .bool (wordsOk kd n1))] a5 → Code.wp Tryd.prog c_ck_p16 (bodyPost Tryd.prog Tryd.f100 (fun e w' => e = .returned (.agg #[.int .i64 ((fmVal hole (.mk ⟨kd, nm, ws⟩ l) d n).1 : Nat), .int .i64 ((fmVal hole (.mk ⟨kd, nm, ws⟩ l) d n).2.1 : Nat)]) ∧ w'.heap[bn]? = some (.cells #[.int .i64 ((fmVal hole (.mk ⟨kd, nm, ws⟩ l) d n).2.2 : Nat)] 3 (0, 0)) ∧ Keeps (· = bn) w w')) a5 w3 := by
    intro a5 k hk h5
    conv => arg 2; whnf
    refine wp_seq ?_
    refine wp_seq ?_
    refine ck_r16_wp hs (fun a6 h6 => ?_) a5 h5
    cases hc9 : (decide ((n2 : Int) ≠ (k : Int)) || !wordsOk kd n1)
    case true =>
      refine wp_cond_true ((h6.eval (k := 69) (v := .bool (decide ((n2 : Int) ≠ (k : Int)) || !wordsOk kd n1)) (by simp)).trans (by rw [hc9])) ?_
      refine wp_seq ?_
      refine ck_r17_wp hs (fun a' w' h' hd' => ?_) a6 ⟨h6.1, h6.2.1, h6.2.2.1, h6.2.2.2.1, h6.2.2.2.2.1, h6.2.2.2.2.2.1, h6.2.2.2.2.2.2.1, h6.2.2.2.2.2.2.2.1, h6.2.2.2.2.2.2.2.2.1, trivial⟩
      refine wp_ret ?_
      exact hfin 9 n (n + 1) a' w' (hcode 9 (by decide) (by unfold FmL.code; simp only; rw [hk]; simp only; rw [if_pos]; simp only [Bool.or_eq_true, decide_eq_true_eq, Bool.not_eq_true'] at hc9; rcases hc9 with h | h; exact Or.inl (by omega); exact Or.inr (by rw [e1]; exact h))) h' hd'
    refine wp_cond_false ((h6.eval (k := 69) (v := .bool (decide ((n2 : Int) ≠ (k : Int)) || !wordsOk kd n1)) (by simp)).trans (by rw [hc9])) ?_
    refine wp_skip ?_
    show Code.wp _ _ _ a6 w3
    simp only [Bool.or_eq_false_iff, decide_eq_false_iff_not, Decidable.not_not, Bool.not_eq_false'] at hc9
    obtain ⟨hn2, hwk⟩ := hc9
    have hcd : FmL.code hole ⟨kd, nm, ws⟩ l.length = if namedF kd = true ∧ okName nm = false then 10 else if namedF kd = false ∧ nm ≠ bNilF then 5 else if ws.all okName = true then 0 else 10 := by
      unfold FmL.code
      simp only
      rw [hk]
      simp only
      rw [if_neg]
      rintro (h | h)
      · omega
      · rw [e1, hwk] at h; cases h
    refine wp_seq ?_
    refine wp_seq ?_
    refine ck_r18_wp hs (fun a7 w7 h7 hs7 => ?_) a6 ⟨h6.1, h6.2.1, h6.2.2.1, h6.2.2.2.1, h6.2.2.2.2.1, h6.2.2.2.2.2.1, h6.2.2.2.2.2.2.1, h6.2.2.2.2.2.2.2.1, h6.2.2.2.2.2.2.2.2.1, trivial⟩
    refine wp_seq ?_
    refine ck_r19_wp hnm hs7 (fun a8 h8 => ?_) a7 h7
    cases h10 : (namedF kd && !okName nm)
    case true =>
      refine wp_cond_true ((h8.eval (k := 90) (v := .bool (namedF kd && !okName nm)) (by simp)).trans (by rw [h10])) ?_
      have hs := hs7
      refine wp_seq ?_
      refine ck_r20_wp hs (fun a' w' h' hd' => ?_) a8 ⟨h8.1, h8.2.1, h8.2.2.1, h8.2.2.2.1, h8.2.2.2.2.1, h8.2.2.2.2.2.1, h8.2.2.2.2.2.2.1, h8.2.2.2.2.2.2.2.1, h8.2.2.2.2.2.2.2.2.1, trivial⟩
      refine wp_ret ?_
      exact hfin 10 n (n + 1) a' w' (hcode 10 (by decide) (by rw [hcd, if_pos]; simpa using h10)) h' hd'
    refine wp_cond_false ((h8.eval (k := 90) (v := .bool (namedF kd && !okName nm)) (by simp)).trans (by rw [h10])) ?_
    refine wp_seq ?_
    refine ck_r21_wp hs7 (fun a9 h9 => ?_) a8 ⟨h8.1, h8.2.1, h8.2.2.1, h8.2.2.2.1, h8.2.2.2.2.1, h8.2.2.2.2.2.1, h8.2.2.2.2.2.2.1, h8.2.2.2.2.2.2.2.1, h8.2.2.2.2.2.2.2.2.1, h8.2.2.2.2.2.2.2.2.2.1, trivial⟩
    have hno10 : ¬ (namedF kd = true ∧ okName nm = false) := by
      rintro ⟨h1, h2⟩
      rw [h1, h2] at h10
      cases h10
    rw [if_neg hno10] at hcd
    cases h5' : (!namedF kd && decide (nm ≠ bNilF))
    case true =>
      refine wp_cond_true ((h9.eval (k := 99) (v := .bool (!namedF kd && decide (nm ≠ bNilF))) (by simp)).trans (by rw [h5'])) ?_
      have hs := hs7
      refine wp_seq ?_
      refine ck_r22_wp hs (fun a' w' h' hd' => ?_) a9 ⟨h9.1, h9.2.1, h9.2.2.1, h9.2.2.2.1, h9.2.2.2.2.1, h9.2.2.2.2.2.1, h9.2.2.2.2.2.2.1, h9.2.2.2.2.2.2.2.1, h9.2.2.2.2.2.2.2.2.1, trivial⟩
      refine wp_ret ?_
      exact hfin 5 n (n + 1) a' w' (hcode 5 (by decide) (by rw [hcd, if_pos]; simpa using h5')) h' hd'
    refine wp_cond_false ((h9.eval (k := 99) (v := .bool (!namedF kd && decide (nm ≠ bNilF))) (by simp)).trans (by rw [h5'])) ?_
    refine wp_skip ?_
    have hno5 : ¬ (namedF kd = false ∧ nm ≠ bNilF) := by
      rintro ⟨h1, h2⟩
      rw [h1, decide_eq_true h2] at h5'
      cases h5'
    rw [if_neg hno5] at hcd
    exact p23 a9 w7 hs7 (fun h => by rw [hcd, if_neg (by rw [h]; decide)]) (fun h => by rw [hcd, if_pos h]) ⟨h9.1, h9.2.1, h9.2.2.1, h9.2.2.2.1, h9.2.2.2.2.1, h9.2.2.2.2.2.1, h9.2.2.2.2.2.2.1, h9.2.2.2.2.2.2.2.1, h9.2.2.2.2.2.2.2.2.1, trivial⟩
  have p9 : ∀ (a5 : Act), Frm 133 [(1, .int .i64 (d : Nat)), (2, .pointer (some ⟨bn, 0, none⟩)), (3, .pointer (some ⟨bo, 0, none⟩)), (4, .pointer (some ⟨bw, 0, none⟩)), (5, .pointer (some ⟨w.heap.size, 0, none⟩)), (7, .pointer (some ⟨w.heap.size + 1, 0, none⟩)), (9, (.func (Fn.func 101) #[] #[.pointer (some ⟨w.heap.size + 1 + 1, 0, none⟩)])), (10, .int .i64 (subsI hole kd))] a5 → Code.wp Tryd.prog c_ck_p9 (bodyPost Tryd.prog Tryd.f100 (fun e w' => e = .returned (.agg #[.int .i64 ((fmVal hole (.mk ⟨kd, nm, ws⟩ l) d n).1 : Nat), .int .i64 ((fmVal hole (.mk ⟨kd, nm, ws⟩ l) d n).2.1 : Nat)]) ∧ w'.heap[bn]? = some (.cells #[.int .i64 ((fmVal hole (.mk ⟨kd, nm, ws⟩ l) d n).2.2 : Nat)] 3 (0, 0)) ∧ Keeps (· = bn) w w')) a5 w3 := by
    intro a5 h5
    conv => arg 2; whnf
    refine wp_seq ?_
    refine wp_seq ?_
    refine ck_r9_wp (fun a6 h6 => ?_) a5 h5
    cases hk : subsF hole kd with
    | none =>
      have hq : subsI hole kd = -1 := by unfold subsI; rw [hk]
      rw [hq] at h6
      refine wp_cond_true ((h6.eval (k := 40) (v := .bool (decide ((-1 : Int) < 0))) (by simp)).trans (by rw [decide_eq_true (by decide)])) ?_
      refine wp_seq ?_
      refine ck_r10_wp hs (fun a' w' h' hd' => ?_) a6 ⟨h6.1, h6.2.1, h6.2.2.1, h6.2.2.2.1, h6.2.2.2.2.1, h6.2.2.2.2.2.1, h6.2.2.2.2.2.2.1, h6.2.2.2.2.2.2.2.1, h6.2.2.2.2.2.2.2.2.1, trivial⟩
      refine wp_ret ?_
      exact hfin 4 n (n + 1) a' w' (hcode 4 (by decide) (by unfold FmL.code; simp only; rw [hk])) h' hd'
    | some k =>
      have hq : subsI hole kd = (k : Int) := by unfold subsI; rw [hk]
      rw [hq] at h6
      refine wp_cond_false ((h6.eval (k := 40) (v := .bool (decide ((k : Int) < 0))) (by simp)).trans (by rw [decide_eq_false (by omega)])) ?_
      refine wp_skip ?_
      show Code.wp _ _ _ a6 w3
      refine wp_seq ?_
      refine ck_r11_wp hs (fun a7 h7 => ?_) a6 ⟨h6.1, h6.2.1, h6.2.2.1, h6.2.2.2.1, h6.2.2.2.2.1, h6.2.2.2.2.2.1, h6.2.2.2.2.2.2.1, h6.2.2.2.2.2.2.2.1, h6.2.2.2.2.2.2.2.2.1, h6.2.2.2.2.2.2.2.2.2.1, trivial⟩
      refine wp_seq ?_
      refine wp_seq ?_
      refine ck_r12_wp hs (fun a8 h8 => ?_) a7 h7
      by_cases hk2 : kd = 2
      · refine wp_cond_true ((h8.eval (k := 49) (v := .bool (decide (kd = 2))) (by simp)).trans (by rw [decide_eq_true hk2])) ?_
        refine ck_r13_wp hs (fun a9 h9 => ?_) a8 ⟨h8.1, h8.2.1, h8.2.2.1, h8.2.2.2.1, h8.2.2.2.2.1, h8.2.2.2.2.2.1, h8.2.2.2.2.2.2.1, h8.2.2.2.2.2.2.2.1, h8.2.2.2.2.2.2.2.2.1, h8.2.2.2.2.2.2.2.2.2.1, h8.2.2.2.2.2.2.2.2.2.2.1, trivial⟩
        refine p16 a9 k hk ?_
        rw [show wordsOk kd n1 = decide (n1 ≤ 3) from by unfold wordsOk; rw [if_pos hk2]]
        exact h9
      refine wp_cond_false ((h8.eval (k := 49) (v := .bool (decide (kd = 2))) (by simp)).trans (by rw [decide_eq_false hk2])) ?_
      refine wp_seq ?_
      refine ck_r14_wp hs (fun a9 h9 => ?_) a8 ⟨h8.1, h8.2.1, h8.2.2.1, h8.2.2.2.1, h8.2.2.2.2.1, h8.2.2.2.2.2.1, h8.2.2.2.2.2.2.1, h8.2.2.2.2.2.2.2.1, h8.2.2.2.2.2.2.2.2.1, h8.2.2.2.2.2.2.2.2.2.1, h8.2.2.2.2.2.2.2.2.2.2.1, trivial⟩
      by_cases hk3 : kd = 3
      · refine wp_cond_true ((h9.eval (k := 56) (v := .bool (decide (kd = 3))) (by simp)).trans (by rw [decide_eq_true hk3])) ?_
        refine ck_r15_wp hs (fun a10 h10 => ?_) a9 ⟨h9.1, h9.2.1, h9.2.2.1, h9.2.2.2.1, h9.2.2.2.2.1, h9.2.2.2.2.2.1, h9.2.2.2.2.2.2.1, h9.2.2.2.2.2.2.2.1, h9.2.2.2.2.2.2.2.2.1, h9.2.2.2.2.2.2.2.2.2.1, h9.2.2.2.2.2.2.2.2.2.2.1, trivial⟩
        refine p16 a10 k hk ?_
        rw [show wordsOk kd n1 = decide (n1 = 2) from by unfold wordsOk; rw [if_neg hk2, if_pos hk3]]
        exact h10
      refine wp_cond_false ((h9.eval (k := 56) (v := .bool (decide (kd = 3))) (by simp)).trans (by rw [decide_eq_false hk3])) ?_
      refine wp_skip ?_
      refine p16 a9 k hk ?_
      rw [show wordsOk kd n1 = decide (n1 = 0) from by unfold wordsOk; rw [if_neg hk2, if_neg hk3]]
      exact ⟨h9.1, h9.2.1, h9.2.2.1, h9.2.2.2.1, h9.2.2.2.2.1, h9.2.2.2.2.2.1, h9.2.2.2.2.2.2.1, h9.2.2.2.2.2.2.2.1, h9.2.2.2.2.2.2.2.2.1, h9.2.2.2.2.2.2.2.2.2.1, h9.2.2.2.2.2.2.2.2.2.2.1, trivial⟩
  refine wp_seq ?_
  refine wp_seq ?_
  refine ck_r7_wp hs ((hs.k.block bo (lt_heap ho) (fun e => hno e.symm)).trans ho) (fun a6 h6 => ?_) a5 h5
  cases hh : (decide (kd = 10) && hole)
  case true =>
    refine wp_cond_true ((h6.eval (k := 38) (v := .bool (decide (kd = 10) && hole)) (by simp)).trans (by rw [hh])) ?_
    refine ck_r8_wp (fun a7 h7 => ?_) a6 ⟨h6.1, h6.2.1, h6.2.2.1, h6.2.2.2.1, h6.2.2.2.2.1, h6.2.2.2.2.2.1, h6.2.2.2.2.2.2.1, h6.2.2.2.2.2.2.2.1, h6.2.2.2.2.2.2.2.2.1, h6.2.2.2.2.2.2.2.2.2.1, trivial⟩
    refine p9 a7 ?_
    simp only [Bool.and_eq_true, decide_eq_true_eq] at hh
    obtain ⟨rfl, rfl⟩ := hh
    exact h7
  refine wp_cond_false ((h6.eval (k := 38) (v := .bool (decide (kd = 10) && hole)) (by simp)).trans (by rw [hh])) ?_
  refine wp_skip ?_
  refine p9 a6 ?_
  have hq : subsI hole kd = subsI false kd := by
    unfold subsI subsF
    cases hole
    · rfl
    · have hk : kd ≠ 10 := by rintro rfl; cases hh
      simp [hk]
  rw [hq]
  exact ⟨h6.1, h6.2.1, h6.2.2.1, h6.2.2.2.1, h6.2.2.2.2.1, h6.2.2.2.2.2.1, h6.2.2.2.2.2.2.1, h6.2.2.2.2.2.2.2.1, h6.2.2.2.2.2.2.2.2.1, h6.2.2.2.2.2.2.2.2.2.1, trivial⟩
set_option maxRecDepth 100000 in
set_option maxHeartbeats 4000000 in
/-- folform.Check. -/
theorem check_any (hole : Bool) (t : Fm) (cs : List Value) (w : World) (S : Nat → Prop) (ht : fmRep.R w S t cs) (hS : ∀ b, S b → b < w.heap.size) :
    Calls Tryd.prog 76 #[.agg cs.toArray, .bool hole] w fun e w' => e = .returned (.agg #[.int .i64 ((fmVal hole t 1 0).1 : Nat), .int .i64 ((fmVal hole t 1 0).2.1 : Nat)]) ∧ Below w.heap.size w w' := by
  obtain ⟨A, n1, c1, B, n2, c2, rfl, _, _, _, _⟩ := Fm.shape ht
  obtain ⟨kd, hkd⟩ : ∃ k, t.lab.kind = k := ⟨_, rfl⟩
  obtain ⟨nm, hnm⟩ : ∃ k, t.lab.nm = k := ⟨_, rfl⟩
  rw [hkd, hnm] at ht ⊢
  have hv : ∀ W : World, W.heap.size = w.heap.size + 1 + 1 + 1 + 1 + 1 → (∀ b, b < w.heap.size → W.heap[b]? = w.heap[b]?) → W.heap[w.heap.size + 1]? = some (.cells #[.bool hole] 4 (0, 0)) → W.heap[w.heap.size + 1 + 1 + 1]? = some (.cells #[.int .i64 0] 3 (0, 0)) → W.heap[w.heap.size + 1 + 1 + 1 + 1]? = some (.cells #[.func (Fn.func 100) #[] #[.pointer (some ⟨w.heap.size + 1 + 1 + 1, 0, none⟩), .pointer (some ⟨w.heap.size + 1, 0, none⟩), .pointer (some ⟨w.heap.size + 1 + 1 + 1 + 1, 0, none⟩)]] 110 (0, 0)) →
      Calls Tryd.prog 100 #[.agg #[.int .i64 kd, .string nm, .slice A n1 c1, .slice B n2 c2], .int .i64 1, .pointer (some ⟨w.heap.size + 1 + 1 + 1, 0, none⟩), .pointer (some ⟨w.heap.size + 1, 0, none⟩), .pointer (some ⟨w.heap.size + 1 + 1 + 1 + 1, 0, none⟩)] W fun e w' => e = .returned (.agg #[.int .i64 ((fmVal hole t 1 0).1 : Nat), .int .i64 ((fmVal hole t 1 0).2.1 : Nat)]) ∧ w'.heap[w.heap.size + 1 + 1 + 1]? = some (.cells #[.int .i64 ((fmVal hole t 1 0).2.2 : Nat)] 3 (0, 0)) ∧ Keeps (· = w.heap.size + 1 + 1 + 1) W w' :=
    fun W hz hk h1 h3 h4 => fmVal_any hole t.nodes t [.int .i64 kd, .string nm, .slice A n1 c1, .slice B n2 c2] W S (w.heap.size + 1 + 1 + 1) (w.heap.size + 1) (w.heap.size + 1 + 1 + 1 + 1) 1 0 (Nat.le_refl _) (fmRep.keep ht (fun b hb => hk b (hS b hb)) (fun _ h => h)) (fun b hb => ⟨by have := hS b hb; omega, by have := hS b hb; omega⟩) h3 h1 h4 (by omega) (by omega) (by omega) (by omega)
  clear ht hkd hnm
  have HV := Lib.hid hv
  have HS := Lib.hid hS
  clear hv hS
  go_enter Tryd.func76, Tryd.ntmps76
  go_wp2_with fail
  (with_reducible refine (HV.out _ ?hz ?hk ?h1 ?h3 ?h4).mono ?_)
  case hz => simp
  case hk => exact fun b hb => heap_old (by first | (simp; done) | (simp; omega)) (heap_old (by first | (simp; done) | (simp; omega)) (heap_old (by first | (simp; done) | (simp; omega)) (heap_old (by first | (simp; done) | (simp; omega)) (heap_old hb rfl))))
  case h1 => exact heap_old (by first | (simp; done) | (simp; omega)) (heap_old (by first | (simp; done) | (simp; omega)) (heap_old (by first | (simp; done) | (simp; omega)) (heap_at (by simp))))
  case h3 => exact heap_old (by first | (simp; done) | (simp; omega)) (heap_at (by simp))
  case h4 => exact heap_at (by simp)
  rintro e w1 ⟨rfl, _, hk1⟩
  have h2 := (hk1.block (w.heap.size + 1 + 1) (by first | (simp; done) | (simp; omega)) (by omega)).trans (heap_old (by first | (simp; done) | (simp; omega)) (heap_old (by first | (simp; done) | (simp; omega)) (heap_at (by simp))))
  have hb : Below w.heap.size w w1 := (show Below w.heap.size w _ by go_grown).trans (hk1.below (B := w.heap.size) (by rintro k rfl; omega) (by first | (simp; done) | (simp; omega)))
  clear hk1
  have HB := Lib.hid hb
  clear hb
  have h2_0 := cv0 h2
  have h2_1 := cv1 h2
  have h2_f0 := free_heap h2 0
  have h2_f1 := free_heap h2 1
  have h2_l := lt_heap h2
  have H2 := Lib.hid h2
  clear h2
  go_wp2_with fail
  refine bodyPost_ret (v := .agg #[.int .i64 ((fmVal hole t 1 0).1 : Nat), .int .i64 ((fmVal hole t 1 0).2.1 : Nat)]) (by simp [results, Tryd.results76, go_sem, h2_0, h2_1, h2_l]) rfl ?_
  exact ⟨rfl, below2 HB.out (by omega)⟩
def fmFault (t : Fm) : Nat × Nat := ((fmVal false t 1 0).1, (fmVal false t 1 0).2.1)
set_option maxRecDepth 100000 in
set_option maxHeartbeats 4000000 in
/-- folform.Validate. -/
theorem validateFm_any (t : Fm) (cs : List Value) (w : World) (S : Nat → Prop) (ht : fmRep.R w S t cs) (hS : ∀ b, S b → b < w.heap.size) :
    Calls Tryd.prog 46 #[.agg cs.toArray] w fun e w' => e = .returned (.agg #[.int .i64 ((fmFault t).1 : Nat), .int .i64 ((fmFault t).2 : Nat)]) ∧ Below w.heap.size w w' := by
  obtain ⟨A, n1, c1, B, n2, c2, rfl, _, _, _, _⟩ := Fm.shape ht
  have hv := fun (o p : Obj) => Lib.hid (check_any false t _ ((w.alloc o).alloc p) S (fmRep.keep ht (fun b hb => heap_old (by have := hS b hb; simp; omega) (heap_old (hS b hb) rfl)) (fun _ h => h)) (fun b hb => by have := hS b hb; simp; omega))
  clear ht
  have HV := Lib.hid hv
  have HS := Lib.hid hS
  clear hv hS
  unfold fmFault
  go_enter Tryd.func46, Tryd.ntmps46
  go_wp2_with fail
  (with_reducible refine (HV.out _ _).out.mono ?_)
  rintro e w1 ⟨rfl, hb1⟩
  have h2 := (hb1.block (w.heap.size + 1) (by simp)).trans (heap_at (by simp))
  have hb : Below w.heap.size w w1 := (show Below w.heap.size w _ by go_grown).trans (hb1.mono (by first | (simp; done) | (simp; omega)))
  clear hb1
  have HB := Lib.hid hb
  clear hb
  have h2_0 := cv0 h2
  have h2_1 := cv1 h2
  have h2_f0 := free_heap h2 0
  have h2_f1 := free_heap h2 1
  have h2_l := lt_heap h2
  have H2 := Lib.hid h2
  clear h2
  go_wp2_with fail
  refine bodyPost_ret (v := .agg #[.int .i64 ((fmVal false t 1 0).1 : Nat), .int .i64 ((fmVal false t 1 0).2.1 : Nat)]) (by simp [results, Tryd.results46, go_sem, h2_0, h2_1, h2_l]) rfl ?_
  exact ⟨rfl, below2 HB.out (by omega)⟩
end

section
open Go Go.RowKit
set_option linter.unusedSimpArgs false
set_option linter.unusedVariables false
set_option maxRecDepth 100000 in
set_option maxHeartbeats 32000000 in
theorem validateMd_any (m : Md) (cells : List Value) (w : World) (S : Nat → Prop) (h : m.In w S cells) (hS : ∀ b, S b → b < w.heap.size) :
    Calls Tryd.prog 44 #[.agg cells.toArray] w (MdAt m w) := by
  obtain ⟨A, c, B, d, rfl, hcl, hrl, hC, hR⟩ := Md.shape h
  obtain ⟨sz, cl, rl⟩ := m
  simp only at hcl hrl hC hR
  have HE : Hid (∀ c i : Nat, mdFault ⟨sz, cl, rl⟩ = (c, i) → ∀ W : World, Below w.heap.size w W → MdAt ⟨sz, cl, rl⟩ w (.returned (.agg #[.int .i64 (c : Nat), .int .i64 (i : Nat)])) W) := Lib.hid (fun c i e W hb => by unfold MdAt; rw [e]; exact ⟨rfl, hb⟩)
  unfold maxLen at hcl hrl
  clear h
  have HC := Lib.hid hC
  have HR := Lib.hid hR
  have HS := Lib.hid hS
  clear hC hR hS
  by_cases h1 : sz < 1 ∨ 6 < sz
  · have hr : mdFault ⟨sz, cl, rl⟩ = (3, 0) := by rw [mdFault_mk, if_pos h1]
    have h2 : sz < 1 ∨ (¬ sz < 1 ∧ 6 < sz) := by omega
    clear h1
    have HR := Lib.hid hr
    clear hr
    rcases h2 with q1 | ⟨q1, q2⟩
    all_goals
      go_enter Tryd.func44, Tryd.ntmps44
      go_wp2_with fail
      refine bodyPost_ret (v := .agg #[.int .i64 3, .int .i64 0]) (by simp [results, Tryd.results44, go_sem]) rfl ?_
      exact HE.out 3 0 HR.out _ (by go_grown)
  have hs1 : ¬ sz < 1 := by omega
  have hs6 : ¬ 6 < sz := by omega
  by_cases h2 : 300 < cl.length ∨ 300 < rl.length
  · have hr : mdFault ⟨sz, cl, rl⟩ = (2, 0) := by rw [mdFault_mk, if_neg h1, if_pos h2]
    have h3 : (300 : Int) < (cl.length : Int) ∨ (¬ (300 : Int) < (cl.length : Int) ∧ (300 : Int) < (rl.length : Int)) := by omega
    clear h1 h2
    have HR := Lib.hid hr
    clear hr
    rcases h3 with q1 | ⟨q1, q2⟩
    all_goals
      go_enter Tryd.func44, Tryd.ntmps44
      go_wp2_with fail
      refine bodyPost_ret (v := .agg #[.int .i64 2, .int .i64 0]) (by simp [results, Tryd.results44, go_sem]) rfl ?_
      exact HE.out 2 0 HR.out _ (by go_grown)
  have q3 : ¬ (300 : Int) < (cl.length : Int) := by omega
  have q4 : ¬ (300 : Int) < (rl.length : Int) := by omega
  have hbad : (consF sz none 0 cl).1 ≠ 0 → mdFault ⟨sz, cl, rl⟩ = consF sz none 0 cl := fun h => by rw [mdFault_mk, if_neg h1, if_neg h2, if_neg h]
  have hgo : (consF sz none 0 cl).1 = 0 → mdFault ⟨sz, cl, rl⟩ = relsF sz none 0 rl := fun h => by rw [mdFault_mk, if_neg h1, if_neg h2, if_pos h]
  clear h1 h2
  have HBAD := Lib.hid hbad
  have HGO := Lib.hid hgo
  clear hbad hgo
  go_enter Tryd.func44, Tryd.ntmps44
  go_upto_region 5 with (fail)
  refine gen_last (fun W => W.heap[w.heap.size]? = some (.cells #[.int .i64 sz, .slice A cl.length c, .slice B rl.length d] 25 (0, 0)) ∧ W.heap[w.heap.size + 1]? = some (.cells #[.int .i64 0, .int .i64 0] 31 (0, 0)) ∧ Below w.heap.size w W ∧ w.heap.size + 2 ≤ W.heap.size) ?_ ?_
  · exact ⟨heap_old (by simp) (heap_at rfl), heap_at (by simp), by go_grown, by simp⟩
  rintro w1 ⟨p0, pf, hB, z1⟩
  have HB := Lib.hid hB
  clear hB
  have p0_0 := cv0 p0
  have p0_1 := cv1 p0
  have p0_2 := cv2 p0
  have p0_l := lt_heap p0
  have P0 := Lib.hid p0
  clear p0
  have pf_0 := cv0 pf
  have pf_1 := cv1 pf
  have pf_f0 := free_heap pf 0
  have pf_f1 := free_heap pf 1
  have pf_l := lt_heap pf
  have PF := Lib.hid pf
  clear pf
  go_wp2_with fail
  go_loopg [36] cl.length (fun k v36 wr => ∃ j : Nat, v36 = .int .i64 (j : Nat) ∧ j + k = cl.length ∧ consF sz (prevOf cl j) j (cl.drop j) = consF sz none 0 cl ∧ wr.heap[w.heap.size]? = some (.cells #[.int .i64 sz, .slice A cl.length c, .slice B rl.length d] 25 (0, 0)) ∧ wr.heap[w.heap.size + 1]? = some (.cells #[.int .i64 0, .int .i64 0] 31 (0, 0)) ∧ Below w.heap.size w wr)
  case atStart => exact ⟨0, rfl, by omega, rfl, P0.out, PF.out, HB.out⟩
  case round =>
    clear p0_0 p0_1 p0_2 p0_l pf_0 pf_1 pf_f0 pf_f1 pf_l P0 PF HB z1
    obtain ⟨j, rfl, hj, hc, p0, pf, hB⟩ := hrel
    have zr : w.heap.size + 2 ≤ wr.heap.size := by have := lt_heap pf; omega
    have HC2 := Lib.hid (HC.out.keep (w' := wr) (S' := S) (fun b hb => hB.block b (HS.out b hb)) (fun _ h => h))
    have HB := Lib.hid hB
    clear hB
    have p0_0 := cv0 p0
    have p0_1 := cv1 p0
    have p0_2 := cv2 p0
    have p0_l := lt_heap p0
    have P0 := Lib.hid p0
    clear p0
    have pf_0 := cv0 pf
    have pf_1 := cv1 pf
    have pf_f0 := free_heap pf 0
    have pf_f1 := free_heap pf 1
    have pf_l := lt_heap pf
    have PF := Lib.hid pf
    clear pf
    by_cases hjl : j < cl.length
    case neg =>
      have q1 : ¬ (j : Int) < (cl.length : Int) := by omega
      have hz : (consF sz none 0 cl).1 = 0 := by
        rw [← hc, List.drop_eq_nil_of_le (by omega)]; rfl
      have hrels := HGO.out hz
      clear hc hz
      have HRELS := Lib.hid hrels
      clear hrels
      clear HC2 HGO HBAD HC
      go_wp2_with fail
      go_loopg [80] rl.length (fun k v80 wr => ∃ j : Nat, v80 = .int .i64 (j : Nat) ∧ j + k = rl.length ∧ relsF sz (prevOf rl j) j (rl.drop j) = relsF sz none 0 rl ∧ wr.heap[w.heap.size]? = some (.cells #[.int .i64 sz, .slice A cl.length c, .slice B rl.length d] 25 (0, 0)) ∧ wr.heap[w.heap.size + 1]? = some (.cells #[.int .i64 0, .int .i64 0] 31 (0, 0)) ∧ Below w.heap.size w wr)
      case atStart => exact ⟨0, rfl, by omega, rfl, P0.out, PF.out, HB.out⟩
      case round =>
        clear p0_0 p0_1 p0_2 p0_l pf_0 pf_1 pf_f0 pf_f1 pf_l P0 PF HB zr
        clear hjl hj q1
        obtain ⟨j, rfl, hj, hc, p0, pf, hB⟩ := hrel
        have zr : w.heap.size + 2 ≤ wr.heap.size := by have := lt_heap pf; omega
        have HR2 := Lib.hid (HR.out.keep (w' := wr) (S' := S) (fun b hb => hB.block b (HS.out b hb)) (fun _ h => h))
        have HB := Lib.hid hB
        clear hB
        have p0_0 := cv0 p0
        have p0_1 := cv1 p0
        have p0_2 := cv2 p0
        have p0_l := lt_heap p0
        have P0 := Lib.hid p0
        clear p0
        have pf_0 := cv0 pf
        have pf_1 := cv1 pf
        have pf_f0 := free_heap pf 0
        have pf_f1 := free_heap pf 1
        have pf_l := lt_heap pf
        have PF := Lib.hid pf
        clear pf
        by_cases hjl : j < rl.length
        case neg =>
          have q1 : ¬ (j : Int) < (rl.length : Int) := by omega
          have hr := HRELS.out.trans hc.symm
          rw [List.drop_eq_nil_of_le (by omega)] at hr
          have hr : mdFault ⟨sz, cl, rl⟩ = (0, 0) := hr
          clear hc
          have HR := Lib.hid hr
          clear hr
          go_wp2_with fail
          refine bodyPost_ret (v := .agg #[.int .i64 0, .int .i64 0]) (by simp [results, Tryd.results44, go_sem, pf_0, pf_1, pf_l]) rfl ?_
          exact HE.out 0 0 HR.out _ (below2 HB.out (by omega))
        rw [relsF_step hjl] at hc
        obtain ⟨b, o, T, t, hA, hSb, e0, e1, e2, hn, htl, htp⟩ := rel_at HR2.out hjl
        subst hA
        have hbl := HS.out b hSb
        have hbl2 : b < wr.heap.size := by omega
        have hbl3 : b < wr.heap.size + 1 := by omega
        have hbl4 : b < wr.heap.size + 1 + 1 := by omega
        obtain ⟨⟨nm, ar, tp⟩, hv⟩ : ∃ x, rl[j] = x := ⟨_, rfl⟩
        rw [hv] at e0 e1 e2 hn hc htl htp
        simp only at e0 e1 e2 hn htl htp
        unfold maxLen at htl
        have hnm := fun W : World => name_any nm W hn
        have q1 : (j : Int) < (rl.length : Int) := by omega
        have q0 : (0 : Int) ≤ (j : Int) := by omega
        have hpv : ∀ p, prevOf rl j = some p → ∃ i T' t', j = i + 1 ∧ wr.cell? ⟨b, o + i * 3, none⟩ = some (.string p.nm) ∧ wr.cell? ⟨b, o + i * 3 + 1, none⟩ = some (.int .i64 p.ar) ∧ wr.cell? ⟨b, o + i * 3 + 2, none⟩ = some (.slice T' p.tp.length t') := by
          intro p hp
          cases j with
          | zero => cases hp
          | succ i =>
            obtain ⟨b2, o2, T', t', hA2, _, f0, f1, f2, _⟩ := rel_at HR2.out (j := i) (by omega)
            simp only [Option.some.injEq, Addr.mk.injEq] at hA2
            obtain ⟨rfl, rfl, _⟩ := hA2
            refine ⟨i, T', t', rfl, ?_⟩
            have : rl[i]? = some p := hp
            rw [List.getElem?_eq_getElem (by omega)] at this
            rw [← Option.some.inj this]
            exact ⟨f0, f1, f2⟩
        obtain ⟨pv, hpe⟩ : ∃ pv, prevOf rl j = pv := ⟨_, rfl⟩
        rw [hpe] at hc hpv
        have hpv0 : pv = none → j = 0 := by
          intro e
          rw [e] at hpe
          cases j with
          | zero => rfl
          | succ i =>
            have h3 : rl[i]? = none := hpe
            rw [List.getElem?_eq_getElem (by omega)] at h3
            cases h3
        have hcode : ∀ c, relCode sz pv ⟨nm, ar, tp⟩ = c → c ≠ 0 → mdFault ⟨sz, cl, rl⟩ = (c, j) := fun c e hne => by
          have h3 := hc
          rw [e, if_neg hne] at h3
          exact HRELS.out.trans h3.symm
        have hnext : relCode sz pv ⟨nm, ar, tp⟩ = 0 → relsF sz (prevOf rl (j + 1)) (j + 1) (rl.drop (j + 1)) = relsF sz none 0 rl := fun e => by
          have h3 := hc
          rwa [e, if_pos rfl] at h3
        clear hc hv hpe
        have HNM := Lib.hid hnm
        have HPV := Lib.hid hpv
        have HPV0 := Lib.hid hpv0
        have HCODE := Lib.hid hcode
        have HNEXT := Lib.hid hnext
        have HTP := Lib.hid htp
        clear hnm hpv hpv0 hcode hnext htp
        go_upto_region 20 with (fail)
        refine gen_last (fun W => W.heap[w.heap.size]? = some (.cells #[.int .i64 sz, .slice A cl.length c, .slice (some ⟨b, o, none⟩) rl.length d] 25 (0, 0)) ∧ W.heap[w.heap.size + 1]? = some (.cells #[.int .i64 0, .int .i64 0] 31 (0, 0)) ∧ W.heap[wr.heap.size]? = some (.cells #[.int .i64 (j : Nat)] 3 (0, 0)) ∧ W.heap[wr.heap.size + 1]? = some (.cells #[.string nm, .int .i64 ar, .slice T tp.length t] 65 (0, 0)) ∧ Below w.heap.size w W ∧ wr.heap.size + 2 ≤ W.heap.size ∧ (∀ k, k < wr.heap.size → W.heap[k]? = wr.heap[k]?)) ?_ ?_
        · exact ⟨heap_old (by simp; omega) (heap_old p0_l P0.out), heap_old (by simp; omega) (heap_old pf_l PF.out), heap_old (by simp) (heap_at rfl), heap_at (by simp), (HB.out.alloc (by omega) _).alloc (by simp; omega) _, by simp, fun k hk => heap_old (by simp; omega) (heap_old hk rfl)⟩
        rintro wo ⟨p0, pf, pi, px, hB, zo, hkw⟩
        have HPV2 := Lib.hid (fun (p : Rel) (hp : pv = some p) => show ∃ i T' t', j = i + 1 ∧ wo.cell? ⟨b, o + i * 3, none⟩ = some (.string p.nm) ∧ wo.cell? ⟨b, o + i * 3 + 1, none⟩ = some (.int .i64 p.ar) ∧ wo.cell? ⟨b, o + i * 3 + 2, none⟩ = some (.slice T' p.tp.length t') from by
          obtain ⟨i, T', t', h1, h2, h3, h4⟩ := HPV.out p hp
          exact ⟨i, T', t', h1, (cell_keep (hkw b hbl2) _).trans h2, (cell_keep (hkw b hbl2) _).trans h3, (cell_keep (hkw b hbl2) _).trans h4⟩)
        have HTP2 := Lib.hid (HTP.out.keep (w' := wo) (S' := S) (fun b hb => hkw b (by have := HS.out b hb; omega)) (fun _ h => h))
        clear p0_0 p0_1 p0_2 p0_l pf_0 pf_1 pf_f0 pf_f1 pf_l e0 e1 e2 P0 PF HB HR2 HPV HTP hkw
        generalize wr.heap.size = E at *
        have HB := Lib.hid hB
        clear hB
        have p0_0 := cv0 p0
        have p0_1 := cv1 p0
        have p0_2 := cv2 p0
        have p0_l := lt_heap p0
        have P0 := Lib.hid p0
        clear p0
        have pf_0 := cv0 pf
        have pf_1 := cv1 pf
        have pf_f0 := free_heap pf 0
        have pf_f1 := free_heap pf 1
        have pf_l := lt_heap pf
        have PF := Lib.hid pf
        clear pf
        have pi_0 := cv0 pi
        have pi_l := lt_heap pi
        have PI := Lib.hid pi
        clear pi
        have px_0 := cv0 px
        have px_1 := cv1 px
        have px_2 := cv2 px
        have px_l := lt_heap px
        have PX := Lib.hid px
        clear px
        go_wp2_with fail
        (with_reducible refine (HNM.out _).mono ?_)
        rintro e wz ⟨rfl, rfl⟩
        cases hok : okName nm with
        | false =>
          have hr := HCODE.out 10 (by unfold relCode; rw [if_pos hok]) (by decide)
          have HR := Lib.hid hr
          clear hr
          clear hok
          have hcl := bad2_any E 10 (j : Nat) wo pi_0
          have HCL := Lib.hid hcl
          clear hcl
          go_upto_region 21 with (fail)
          go_cut [] (fun wc2 => wc2.heap[w.heap.size + 1]? = some (.cells #[.int .i64 10, .int .i64 (j : Nat)] 31 (0, 0)) ∧ Below w.heap.size w wc2)
          case first =>
            go_wp2_with fail
            (with_reducible refine HCL.out.mono ?_)
            rintro e wb ⟨rfl, hwb⟩
            have qf := (hwb.block (w.heap.size + 1) pf_l).trans PF.out
            have hBb := HB.out.trans (hwb.mono (by omega))
            have HBB := Lib.hid hBb
            clear hBb
            have qf_0 := cv0 qf
            have qf_1 := cv1 qf
            have qf_f0 := free_heap qf 0
            have qf_f1 := free_heap qf 1
            have qf_l := lt_heap qf
            have QF := Lib.hid qf
            clear qf
            clear pf_0 pf_1 pf_f0 pf_f1 pf_l
            go_wp2_with fail
            go_meet
            exact ⟨at2 QF.out, below2 HBB.out (by omega)⟩
          case rest =>
          obtain ⟨k1, kB⟩ := hcut
          rename World => wret
          have KB := Lib.hid kB
          clear kB
          have k1_0 := cv0 k1
          have k1_1 := cv1 k1
          have k1_l := lt_heap k1
          have K1 := Lib.hid k1
          clear k1
          go_step
          refine wp_ret ?_
          refine bodyPost_ret (v := .agg #[.int .i64 10, .int .i64 (j : Nat)]) ?hres ?hd ?_
          case hd => rfl
          case hres => simp [results, Tryd.results44, go_sem, k1_0, k1_1, k1_l]
          exact HE.out 10 j HR.out _ KB.out
        | true =>
        have HOK := Lib.hid hok
        clear hok HNM
        by_cases har : ar < 0 ∨ 3 < ar
        · have hr := HCODE.out 3 (by unfold relCode; rw [if_neg (by rw [HOK.out]; decide), if_pos har]) (by decide)
          have ha2 : ar < 0 ∨ (¬ ar < 0 ∧ 3 < ar) := by omega
          clear har
          have HR := Lib.hid hr
          clear hr
          rcases ha2 with q5 | ⟨q5, q6⟩
          · skip
            have hcl := bad2_any E 3 (j : Nat) wo pi_0
            have HCL := Lib.hid hcl
            clear hcl
            go_upto_region 23 with (fail)
            go_cut [] (fun wc2 => wc2.heap[w.heap.size + 1]? = some (.cells #[.int .i64 3, .int .i64 (j : Nat)] 31 (0, 0)) ∧ Below w.heap.size w wc2)
            case first =>
              go_wp2_with fail
              (with_reducible refine HCL.out.mono ?_)
              rintro e wb ⟨rfl, hwb⟩
              have qf := (hwb.block (w.heap.size + 1) pf_l).trans PF.out
              have hBb := HB.out.trans (hwb.mono (by omega))
              have HBB := Lib.hid hBb
              clear hBb
              have qf_0 := cv0 qf
              have qf_1 := cv1 qf
              have qf_f0 := free_heap qf 0
              have qf_f1 := free_heap qf 1
              have qf_l := lt_heap qf
              have QF := Lib.hid qf
              clear qf
              clear pf_0 pf_1 pf_f0 pf_f1 pf_l
              go_wp2_with fail
              go_meet
              exact ⟨at2 QF.out, below2 HBB.out (by omega)⟩
            case rest =>
            obtain ⟨k1, kB⟩ := hcut
            rename World => wret
            have KB := Lib.hid kB
            clear kB
            have k1_0 := cv0 k1
            have k1_1 := cv1 k1
            have k1_l := lt_heap k1
            have K1 := Lib.hid k1
            clear k1
            go_step
            refine wp_ret ?_
            refine bodyPost_ret (v := .agg #[.int .i64 3, .int .i64 (j : Nat)]) ?hres ?hd ?_
            case hd => rfl
            case hres => simp [results, Tryd.results44, go_sem, k1_0, k1_1, k1_l]
            exact HE.out 3 j HR.out _ KB.out
          · skip
            have hcl := bad2_any E 3 (j : Nat) wo pi_0
            have HCL := Lib.hid hcl
            clear hcl
            go_upto_region 23 with (fail)
            go_cut [] (fun wc2 => wc2.heap[w.heap.size + 1]? = some (.cells #[.int .i64 3, .int .i64 (j : Nat)] 31 (0, 0)) ∧ Below w.heap.size w wc2)
            case first =>
              go_wp2_with fail
              (with_reducible refine HCL.out.mono ?_)
              rintro e wb ⟨rfl, hwb⟩
              have qf := (hwb.block (w.heap.size + 1) pf_l).trans PF.out
              have hBb := HB.out.trans (hwb.mono (by omega))
              have HBB := Lib.hid hBb
              clear hBb
              have qf_0 := cv0 qf
              have qf_1 := cv1 qf
              have qf_f0 := free_heap qf 0
              have qf_f1 := free_heap qf 1
              have qf_l := lt_heap qf
              have QF := Lib.hid qf
              clear qf
              clear pf_0 pf_1 pf_f0 pf_f1 pf_l
              go_wp2_with fail
              go_meet
              exact ⟨at2 QF.out, below2 HBB.out (by omega)⟩
            case rest =>
            obtain ⟨k1, kB⟩ := hcut
            rename World => wret
            have KB := Lib.hid kB
            clear kB
            have k1_0 := cv0 k1
            have k1_1 := cv1 k1
            have k1_l := lt_heap k1
            have K1 := Lib.hid k1
            clear k1
            go_step
            refine wp_ret ?_
            refine bodyPost_ret (v := .agg #[.int .i64 3, .int .i64 (j : Nat)]) ?hres ?hd ?_
            case hd => rfl
            case hres => simp [results, Tryd.results44, go_sem, k1_0, k1_1, k1_l]
            exact HE.out 3 j HR.out _ KB.out
        have ha0 : ¬ ar < 0 := by omega
        have ha3 : ¬ 3 < ar := by omega
        have HAR := Lib.hid har
        clear har
        have hbo : b < wo.heap.size := by omega
        go_upto_region 24 with (fail)
        go_cut [114] (fun s114 wx => ∃ bb : Bool, s114 = .bool bb ∧ bb = (pv.any fun p => decide (0 ≤ cmpR p ⟨nm, ar, tp⟩)) ∧ wx.heap[w.heap.size]? = some (.cells #[.int .i64 sz, .slice A cl.length c, .slice (some ⟨b, o, none⟩) rl.length d] 25 (0, 0)) ∧ wx.heap[w.heap.size + 1]? = some (.cells #[.int .i64 0, .int .i64 0] 31 (0, 0)) ∧ wx.heap[E]? = some (.cells #[.int .i64 (j : Nat)] 3 (0, 0)) ∧ wx.heap[E + 1]? = some (.cells #[.string nm, .int .i64 ar, .slice T tp.length t] 65 (0, 0)) ∧ Below w.heap.size w wx ∧ E + 2 ≤ wx.heap.size ∧ (∀ k, k < wo.heap.size → wx.heap[k]? = wo.heap[k]?))
        case first =>
          cases pv with
          | none =>
            have t1 : decide ((0 : Int) < (j : Int)) = false := decide_eq_false (by have := HPV0.out rfl; omega)
            have t1n : decide (0 < j) = false := decide_eq_false (by have := HPV0.out rfl; omega)
            go_big_quiet (fail)
            go_wp2_with fail
            go_meet
            exact ⟨false, rfl, rfl, P0.out, PF.out, PI.out, PX.out, (below_nq HB.out _), zo, fun _ _ => rfl⟩
          | some p =>
            obtain ⟨i, T', t', rfl, f0, f1, f2⟩ := HPV2.out p rfl
            obtain ⟨pn, pa, pt⟩ := p
            simp only at f0 f1 f2
            have t1 : decide ((0 : Int) < ((i + 1 : Nat) : Int)) = true := decide_eq_true (by omega)
            have t1n : decide (0 < i + 1) = true := decide_eq_true (by omega)
            have hj1 : ((i + 1 : Nat) : Int) - 1 = (i : Int) := by omega
            have hw1 : IntKind.i64.wrap (i : Int) = (i : Int) := wrap_ok _ (by omega) (by omega)
            have u0 : (0 : Int) ≤ (i : Int) := by omega
            have u1 : (i : Int) < (rl.length : Int) := by omega
            have hcr := fun W : World => cmpR_any ⟨pn, pa, pt⟩ ⟨nm, ar, tp⟩ (.slice T' pt.length t') (.slice T tp.length t) W rfl rfl
            obtain ⟨z, hz⟩ : ∃ z, cmpR ⟨pn, pa, pt⟩ ⟨nm, ar, tp⟩ = z := ⟨_, rfl⟩
            rw [hz] at hcr
            simp only at hcr
            have hany : decide (0 ≤ z) = ((some (⟨pn, pa, pt⟩ : Rel)).any fun p => decide (0 ≤ cmpR p ⟨nm, ar, tp⟩)) := by
              simp only [Option.any_some, hz]
            have HANY := Lib.hid hany
            have E0 : wo.cell? ⟨E, 0, none⟩ = _ := pi_0
            clear hany hz
            have HCR := Lib.hid hcr
            clear hcr
            go_region_held3 (fun w' => w'.cell? ⟨E, 0, none⟩ = some (.int .i64 ((i + 1 : Nat) : Int)) ∧ w'.cell? ⟨E + 1, 0, none⟩ = some (.string nm) ∧ w'.cell? ⟨E + 1, 1, none⟩ = some (.int .i64 ar) ∧ w'.cell? ⟨E + 1, 2, none⟩ = some (.slice T tp.length t) ∧ w'.cell? ⟨w.heap.size, 2, none⟩ = some (.slice (some ⟨b, o, none⟩) rl.length d) ∧ w'.cell? ⟨b, o + i * 3, none⟩ = some (.string pn) ∧ w'.cell? ⟨b, o + i * 3 + 1, none⟩ = some (.int .i64 pa) ∧ w'.cell? ⟨b, o + i * 3 + 2, none⟩ = some (.slice T' pt.length t'))
              ((first | (go_keep; done) | (go_split_ands; (repeat' apply And.intro) <;> (refine (kc _ _ (by omega)).trans ?_; assumption))))
              (((with_reducible refine (HCR.out _).mono ?_); rintro e w6 ⟨rfl, hw6⟩; have kc : ∀ k q, k < wo.heap.size → w6.cell? ⟨k, q, none⟩ = _ := (fun k q h => hw6.cell (p := ⟨k, q, none⟩) (by simp; omega)); have z6 : wo.heap.size ≤ w6.heap.size := (by have := hw6.size; simpa using this); have HW6 := Lib.hid hw6; clear hw6))
            all_goals go_wp2_with fail
            all_goals go_meet
            all_goals
              have hkk : ∀ k, k < wo.heap.size → w6.heap[k]? = wo.heap[k]? := fun k hk => (HW6.out.block k (by simp; omega)).trans (by first | exact heap_drew rfl | rfl)
              exact ⟨decide (0 ≤ z), rfl, HANY.out, (hkk _ p0_l).trans P0.out, (hkk _ pf_l).trans PF.out, (hkk _ pi_l).trans PI.out, (hkk _ px_l).trans PX.out, (HB.out.drew).trans (HW6.out.mono (by simp; omega)), by omega, hkk⟩
        case rest =>
        obtain ⟨bb, rfl, hbb, p0, pf, pi, px, hB, zx, hkx⟩ := hcut
        rename World => wx
        have HTP3 := Lib.hid (HTP2.out.keep (w' := wx) (S' := S) (fun b hb => hkx b (by have := HS.out b hb; omega)) (fun _ h => h))
        clear p0_0 p0_1 p0_2 p0_l pf_0 pf_1 pf_f0 pf_f1 pf_l pi_0 pi_l px_0 px_1 px_2 px_l P0 PF HB PI PX
        clear hbo HPV0 HPV2 HTP2 hkx
        have HBB := Lib.hid hbb
        clear hbb
        have HB := Lib.hid hB
        clear hB
        have p0_0 := cv0 p0
        have p0_1 := cv1 p0
        have p0_2 := cv2 p0
        have p0_l := lt_heap p0
        have P0 := Lib.hid p0
        clear p0
        have pf_0 := cv0 pf
        have pf_1 := cv1 pf
        have pf_f0 := free_heap pf 0
        have pf_f1 := free_heap pf 1
        have pf_l := lt_heap pf
        have PF := Lib.hid pf
        clear pf
        have pi_0 := cv0 pi
        have pi_l := lt_heap pi
        have PI := Lib.hid pi
        clear pi
        have px_0 := cv0 px
        have px_1 := cv1 px
        have px_2 := cv2 px
        have px_l := lt_heap px
        have PX := Lib.hid px
        clear px
        cases bb with
        | true =>
          have hr := HCODE.out 13 (by unfold relCode; rw [if_neg (by rw [HOK.out]; decide), if_neg HAR.out, if_pos HBB.out.symm]) (by decide)
          have HR := Lib.hid hr
          clear hr
          have hcl := bad2_any E 13 (j : Nat) wx pi_0
          have HCL := Lib.hid hcl
          clear hcl
          go_upto_region 25 with (fail)
          go_cut [] (fun wc2 => wc2.heap[w.heap.size + 1]? = some (.cells #[.int .i64 13, .int .i64 (j : Nat)] 31 (0, 0)) ∧ Below w.heap.size w wc2)
          case first =>
            go_wp2_with fail
            (with_reducible refine HCL.out.mono ?_)
            rintro e wb ⟨rfl, hwb⟩
            have qf := (hwb.block (w.heap.size + 1) pf_l).trans PF.out
            have hBb := HB.out.trans (hwb.mono (by omega))
            have HBB := Lib.hid hBb
            clear hBb
            have qf_0 := cv0 qf
            have qf_1 := cv1 qf
            have qf_f0 := free_heap qf 0
            have qf_f1 := free_heap qf 1
            have qf_l := lt_heap qf
            have QF := Lib.hid qf
            clear qf
            clear pf_0 pf_1 pf_f0 pf_f1 pf_l
            go_wp2_with fail
            go_meet
            exact ⟨at2 QF.out, below2 HBB.out (by omega)⟩
          case rest =>
          obtain ⟨k1, kB⟩ := hcut
          rename World => wret
          have KB := Lib.hid kB
          clear kB
          have k1_0 := cv0 k1
          have k1_1 := cv1 k1
          have k1_l := lt_heap k1
          have K1 := Lib.hid k1
          clear k1
          go_step
          refine wp_ret ?_
          refine bodyPost_ret (v := .agg #[.int .i64 13, .int .i64 (j : Nat)]) ?hres ?hd ?_
          case hd => rfl
          case hres => simp [results, Tryd.results44, go_sem, k1_0, k1_1, k1_l]
          exact HE.out 13 j HR.out _ KB.out
        | false =>
        have htc : relCode sz pv ⟨nm, ar, tp⟩ = tupsF sz ar none tp := by
          unfold relCode
          rw [if_neg (by rw [HOK.out]; decide), if_neg HAR.out, if_neg (by rw [← HBB.out]; decide)]
        rw [htc] at HCODE HNEXT
        clear htc HOK HAR HBB
        go_upto_region 26 with (fail)
        go_wp2_with fail
        go_loopg [120] tp.length (fun k v120 wt => ∃ jt : Nat, v120 = .int .i64 (jt : Nat) ∧ jt + k = tp.length ∧ tupsF sz ar (prevOf tp jt) (tp.drop jt) = tupsF sz ar none tp ∧ wt.heap[w.heap.size]? = some (.cells #[.int .i64 sz, .slice A cl.length c, .slice (some ⟨b, o, none⟩) rl.length d] 25 (0, 0)) ∧ wt.heap[w.heap.size + 1]? = some (.cells #[.int .i64 0, .int .i64 0] 31 (0, 0)) ∧ wt.heap[E]? = some (.cells #[.int .i64 (j : Nat)] 3 (0, 0)) ∧ wt.heap[E + 1]? = some (.cells #[.string nm, .int .i64 ar, .slice T tp.length t] 65 (0, 0)) ∧ Below w.heap.size w wt ∧ E + 2 ≤ wt.heap.size ∧ (∀ k, k < wx.heap.size → wt.heap[k]? = wx.heap[k]?))
        case atStart => exact ⟨0, rfl, by omega, rfl, P0.out, PF.out, PI.out, PX.out, HB.out, zx, fun _ _ => rfl⟩
        case round =>
          clear p0_0 p0_1 p0_2 p0_l pf_0 pf_1 pf_f0 pf_f1 pf_l pi_0 pi_l px_0 px_1 px_2 px_l P0 PF HB PI PX
          obtain ⟨jt, rfl, hjt, hct, p0, pf, pi, px, hB, zt, hkt⟩ := hrel
          rename World => wt
          have hwxs : wx.heap.size ≤ wt.heap.size := by
            rcases Nat.lt_or_ge wt.heap.size wx.heap.size with h | h
            · have h2 := hkt wt.heap.size h
              rw [Array.getElem?_eq_none (Nat.le_refl _), Array.getElem?_eq_getElem h] at h2
              cases h2
            · exact h
          have HTP4 := Lib.hid (HTP3.out.keep (w' := wt) (S' := S) (fun b hb => hkt b (by have := HS.out b hb; omega)) (fun _ h => h))
          have HKT := Lib.hid hkt
          clear hkt
          have HB := Lib.hid hB
          clear hB
          have p0_0 := cv0 p0
          have p0_1 := cv1 p0
          have p0_2 := cv2 p0
          have p0_l := lt_heap p0
          have P0 := Lib.hid p0
          clear p0
          have pf_0 := cv0 pf
          have pf_1 := cv1 pf
          have pf_f0 := free_heap pf 0
          have pf_f1 := free_heap pf 1
          have pf_l := lt_heap pf
          have PF := Lib.hid pf
          clear pf
          have pi_0 := cv0 pi
          have pi_l := lt_heap pi
          have PI := Lib.hid pi
          clear pi
          have px_0 := cv0 px
          have px_1 := cv1 px
          have px_2 := cv2 px
          have px_l := lt_heap px
          have PX := Lib.hid px
          clear px
          by_cases hjl2 : jt < tp.length
          case neg =>
            have q5 : ¬ (jt : Int) < (tp.length : Int) := by omega
            have hz : tupsF sz ar none tp = 0 := by
              rw [← hct, List.drop_eq_nil_of_le (by omega)]; rfl
            have hnx := HNEXT.out hz
            clear hct hz
            have HNX := Lib.hid hnx
            clear hnx
            go_wp2_with fail
            go_roundg (rl.length - (j + 1))
            case measure => omega
            case rel => exact ⟨j + 1, by go_num, by omega, HNX.out, P0.out, PF.out, HB.out⟩
          rw [tupsF_step hjl2] at hct
          obtain ⟨b2, o2, T2, t2, hA2, hSb2, g0, htl2, hts⟩ := tup_at HTP4.out hjl2
          subst hA2
          have hbl2' := HS.out b2 hSb2
          have hbt : b2 < wt.heap.size := by omega
          have q5 : (jt : Int) < (tp.length : Int) := by omega
          have q6 : (0 : Int) ≤ (jt : Int) := by omega
          obtain ⟨tu, htu⟩ : ∃ x, tp[jt] = x := ⟨_, rfl⟩
          rw [htu] at g0 htl2 hts hct
          have hpv : ∀ p, prevOf tp jt = some p → ∃ i T' t', jt = i + 1 ∧ wt.cell? ⟨b2, o2 + i, none⟩ = some (.slice T' p.length t') ∧ zRep.Sl wt S (.slice T' p.length t') p := by
            intro p hp
            cases jt with
            | zero => cases hp
            | succ i =>
              obtain ⟨b3, o3, T', t', hA3, _, f0, _, f1⟩ := tup_at HTP4.out (j := i) (by omega)
              simp only [Option.some.injEq, Addr.mk.injEq] at hA3
              obtain ⟨rfl, rfl, _⟩ := hA3
              refine ⟨i, T', t', rfl, ?_⟩
              have : tp[i]? = some p := hp
              rw [List.getElem?_eq_getElem (by omega)] at this
              rw [← Option.some.inj this]
              exact ⟨f0, f1⟩
          obtain ⟨pt, hpe⟩ : ∃ pt, prevOf tp jt = pt := ⟨_, rfl⟩
          rw [hpe] at hct hpv
          have hpv0 : pt = none → jt = 0 := by
            intro e
            rw [e] at hpe
            cases jt with
            | zero => rfl
            | succ i =>
              have h3 : tp[i]? = none := hpe
              rw [List.getElem?_eq_getElem (by omega)] at h3
              cases h3
          have htcode : ∀ c, tupCode sz ar pt tu = c → c ≠ 0 → mdFault ⟨sz, cl, rl⟩ = (c, j) := fun c e hne => by
            have h3 := hct
            rw [e, if_neg hne] at h3
            exact HCODE.out c h3.symm hne
          have htnext : tupCode sz ar pt tu = 0 → tupsF sz ar (prevOf tp (jt + 1)) (tp.drop (jt + 1)) = tupsF sz ar none tp := fun e => by
            have h3 := hct
            rwa [e, if_pos rfl] at h3
          clear hct htu hpe
          unfold maxLen at htl2
          have HPV := Lib.hid hpv
          have HPV0 := Lib.hid hpv0
          have HTCODE := Lib.hid htcode
          have HTNEXT := Lib.hid htnext
          have HTS := Lib.hid hts
          clear hpv hpv0 htcode htnext hts
          by_cases hlen : (tu.length : Int) = ar
          case neg =>
            have q7 : ((tu.length : Int) != ar) = true := bne_iff_ne.2 hlen
            have hr := HTCODE.out 9 (by unfold tupCode; rw [if_pos hlen]) (by decide)
            have HR := Lib.hid hr
            clear hr
            clear hlen
            have hcl := bad2_any E 9 (j : Nat) wt pi_0
            have HCL := Lib.hid hcl
            clear hcl
            go_upto_region 30 with (fail)
            go_cut [] (fun wc2 => wc2.heap[w.heap.size + 1]? = some (.cells #[.int .i64 9, .int .i64 (j : Nat)] 31 (0, 0)) ∧ Below w.heap.size w wc2)
            case first =>
              go_wp2_with fail
              (with_reducible refine HCL.out.mono ?_)
              rintro e wb ⟨rfl, hwb⟩
              have qf := (hwb.block (w.heap.size + 1) pf_l).trans PF.out
              have hBb := HB.out.trans (hwb.mono (by omega))
              have HBB := Lib.hid hBb
              clear hBb
              have qf_0 := cv0 qf
              have qf_1 := cv1 qf
              have qf_f0 := free_heap qf 0
              have qf_f1 := free_heap qf 1
              have qf_l := lt_heap qf
              have QF := Lib.hid qf
              clear qf
              clear pf_0 pf_1 pf_f0 pf_f1 pf_l
              go_wp2_with fail
              go_meet
              exact ⟨at2 QF.out, below2 HBB.out (by omega)⟩
            case rest =>
            obtain ⟨k1, kB⟩ := hcut
            rename World => wret
            have KB := Lib.hid kB
            clear kB
            have k1_0 := cv0 k1
            have k1_1 := cv1 k1
            have k1_l := lt_heap k1
            have K1 := Lib.hid k1
            clear k1
            go_step
            refine wp_ret ?_
            refine bodyPost_ret (v := .agg #[.int .i64 9, .int .i64 (j : Nat)]) ?hres ?hd ?_
            case hd => rfl
            case hres => simp [results, Tryd.results44, go_sem, k1_0, k1_1, k1_l]
            exact HE.out 9 j HR.out _ KB.out
          have q7 : ((tu.length : Int) != ar) = false := by rw [hlen]; simp
          have HLEN := Lib.hid hlen
          clear hlen
          go_upto_region 31 with (fail)
          go_wp2_with fail
          go_loopg [134] tu.length (fun k v134 wq => ∃ q : Nat, v134 = .int .i64 (q : Nat) ∧ wt = wq ∧ q + k = tu.length ∧ (tu.take q).any (badV sz) = false)
          case atStart => exact ⟨0, rfl, rfl, by omega, by simp⟩
          case round =>
            obtain ⟨q, rfl, hwq, hq, hany⟩ := hrel
            subst hwq
            by_cases hql : q < tu.length
            case neg =>
              have q8 : ¬ (q : Int) < (tu.length : Int) := by omega
              have hall : tu.any (badV sz) = false := by rwa [List.take_of_length_le (by omega)] at hany
              have HALL := Lib.hid hall
              clear hany hall
              go_upto_region 37 with (fail)
              go_cut [161] (fun s161 wy => ∃ bb : Bool, s161 = .bool bb ∧ bb = (pt.any fun p => decide (0 ≤ cmpL p tu)) ∧ wy.heap[w.heap.size]? = some (.cells #[.int .i64 sz, .slice A cl.length c, .slice (some ⟨b, o, none⟩) rl.length d] 25 (0, 0)) ∧ wy.heap[w.heap.size + 1]? = some (.cells #[.int .i64 0, .int .i64 0] 31 (0, 0)) ∧ wy.heap[E]? = some (.cells #[.int .i64 (j : Nat)] 3 (0, 0)) ∧ wy.heap[E + 1]? = some (.cells #[.string nm, .int .i64 ar, .slice (some ⟨b2, o2, none⟩) tp.length t] 65 (0, 0)) ∧ Below w.heap.size w wy ∧ E + 2 ≤ wy.heap.size ∧ (∀ k, k < wx.heap.size → wy.heap[k]? = wx.heap[k]?))
              case first =>
                cases pt with
                | none =>
                  have t1 : ¬ (0 : Int) < (jt : Int) := by have := HPV0.out rfl; omega
                  have t1n : ¬ 0 < jt := by have := HPV0.out rfl; omega
                  go_wp2_with fail
                  go_meet
                  exact ⟨false, rfl, rfl, P0.out, PF.out, PI.out, PX.out, HB.out, zt, HKT.out⟩
                | some p =>
                  obtain ⟨i, T', t', hji, f0, f1⟩ := HPV.out p rfl
                  have t1 : (0 : Int) < (jt : Int) := by omega
                  have t1n : 0 < jt := by omega
                  have hj1 : (jt : Int) - 1 = (i : Int) := by omega
                  have u0 : (0 : Int) ≤ (i : Int) := by omega
                  have u1 : (i : Int) < (tp.length : Int) := by omega
                  have hcl := cmpL_any p tu T' T2 t' t2 wt S (f1.keep (fun _ _ => rfl) (fun _ h => h)) (HTS.out.keep (fun _ _ => rfl) (fun _ h => h))
                  obtain ⟨z, hz⟩ : ∃ z, cmpL p tu = z := ⟨_, rfl⟩
                  rw [hz] at hcl
                  have hany2 : decide (0 ≤ z) = ((some p).any fun p => decide (0 ≤ cmpL p tu)) := by
                    simp only [Option.any_some, hz]
                  have HANY2 := Lib.hid hany2
                  clear hany2 hji hz f1
                  have HCL := Lib.hid hcl
                  clear hcl
                  go_wp2_with fail
                  (with_reducible refine HCL.out.mono ?_)
                  rintro e w9 ⟨rfl, rfl⟩
                  go_wp2_with fail
                  go_meet
                  exact ⟨decide (0 ≤ z), rfl, HANY2.out, P0.out, PF.out, PI.out, PX.out, HB.out, zt, HKT.out⟩
              case rest =>
              obtain ⟨bb, rfl, hbb, p0, pf, pi, px, hB, zy, hky⟩ := hcut
              rename World => wy
              clear p0_0 p0_1 p0_2 p0_l pf_0 pf_1 pf_f0 pf_f1 pf_l pi_0 pi_l px_0 px_1 px_2 px_l P0 PF HB PI PX
              clear g0
              have HBB := Lib.hid hbb
              have HKY := Lib.hid hky
              clear hbb hky
              have HB := Lib.hid hB
              clear hB
              have p0_0 := cv0 p0
              have p0_1 := cv1 p0
              have p0_2 := cv2 p0
              have p0_l := lt_heap p0
              have P0 := Lib.hid p0
              clear p0
              have pf_0 := cv0 pf
              have pf_1 := cv1 pf
              have pf_f0 := free_heap pf 0
              have pf_f1 := free_heap pf 1
              have pf_l := lt_heap pf
              have PF := Lib.hid pf
              clear pf
              have pi_0 := cv0 pi
              have pi_l := lt_heap pi
              have PI := Lib.hid pi
              clear pi
              have px_0 := cv0 px
              have px_1 := cv1 px
              have px_2 := cv2 px
              have px_l := lt_heap px
              have PX := Lib.hid px
              clear px
              cases bb with
              | true =>
                have hr := HTCODE.out 13 (by unfold tupCode; rw [if_neg (by have := HLEN.out; omega), if_neg (by rw [HALL.out]; decide), if_pos HBB.out.symm]) (by decide)
                have HR := Lib.hid hr
                clear hr
                have hcl := bad2_any E 13 (j : Nat) wy pi_0
                have HCL := Lib.hid hcl
                clear hcl
                go_upto_region 38 with (fail)
                go_cut [] (fun wc2 => wc2.heap[w.heap.size + 1]? = some (.cells #[.int .i64 13, .int .i64 (j : Nat)] 31 (0, 0)) ∧ Below w.heap.size w wc2)
                case first =>
                  go_wp2_with fail
                  (with_reducible refine HCL.out.mono ?_)
                  rintro e wb ⟨rfl, hwb⟩
                  have qf := (hwb.block (w.heap.size + 1) pf_l).trans PF.out
                  have hBb := HB.out.trans (hwb.mono (by omega))
                  have HBB := Lib.hid hBb
                  clear hBb
                  have qf_0 := cv0 qf
                  have qf_1 := cv1 qf
                  have qf_f0 := free_heap qf 0
                  have qf_f1 := free_heap qf 1
                  have qf_l := lt_heap qf
                  have QF := Lib.hid qf
                  clear qf
                  clear pf_0 pf_1 pf_f0 pf_f1 pf_l
                  go_wp2_with fail
                  go_meet
                  exact ⟨at2 QF.out, below2 HBB.out (by omega)⟩
                case rest =>
                obtain ⟨k1, kB⟩ := hcut
                rename World => wret
                have KB := Lib.hid kB
                clear kB
                have k1_0 := cv0 k1
                have k1_1 := cv1 k1
                have k1_l := lt_heap k1
                have K1 := Lib.hid k1
                clear k1
                go_step
                refine wp_ret ?_
                refine bodyPost_ret (v := .agg #[.int .i64 13, .int .i64 (j : Nat)]) ?hres ?hd ?_
                case hd => rfl
                case hres => simp [results, Tryd.results44, go_sem, k1_0, k1_1, k1_l]
                exact HE.out 13 j HR.out _ KB.out
              | false =>
                have hnx := HTNEXT.out (by unfold tupCode; rw [if_neg (by have := HLEN.out; omega), if_neg (by rw [HALL.out]; decide), if_neg (by rw [← HBB.out]; decide)])
                have HNX := Lib.hid hnx
                clear hnx
                go_wp2_with fail
                go_roundg (tp.length - (jt + 1))
                case measure => omega
                case rel => exact ⟨jt + 1, by go_num, by omega, HNX.out, P0.out, PF.out, PI.out, PX.out, HB.out, zy, HKY.out⟩
            obtain ⟨b3, o3, hA3, hSb3, k0⟩ := int_at HTS.out hql
            subst hA3
            have hb3 : b3 < wt.heap.size := by have := HS.out b3 hSb3; omega
            have q8 : (q : Int) < (tu.length : Int) := by omega
            have q9 : (0 : Int) ≤ (q : Int) := by omega
            have hmem : tu[q] ∈ tu := List.getElem_mem hql
            have htk : (tu.take (q + 1)).any (badV sz) = ((tu.take q).any (badV sz) || badV sz tu[q]) := by
              rw [List.take_succ_eq_append_getElem hql, List.any_append]; simp
            obtain ⟨v, hv⟩ : ∃ v, tu[q] = v := ⟨_, rfl⟩
            rw [hv] at k0 hmem htk
            by_cases hvb : v < 0 ∨ sz ≤ v
            · have hr := HTCODE.out 3 (by unfold tupCode; rw [if_neg (by have := HLEN.out; omega), if_pos (List.any_eq_true.2 ⟨v, hmem, by simp [badV]; exact hvb⟩)]) (by decide)
              have hv2 : v < 0 ∨ (¬ v < 0 ∧ sz ≤ v) := by omega
              clear hvb hv hmem htk hany
              have HR := Lib.hid hr
              clear hr
              rcases hv2 with r5 | ⟨r5, r6⟩
              · skip
                have hcl := bad2_any E 3 (j : Nat) wt pi_0
                have HCL := Lib.hid hcl
                clear hcl
                go_upto_region 35 with (fail)
                go_cut [] (fun wc2 => wc2.heap[w.heap.size + 1]? = some (.cells #[.int .i64 3, .int .i64 (j : Nat)] 31 (0, 0)) ∧ Below w.heap.size w wc2)
                case first =>
                  go_wp2_with fail
                  (with_reducible refine HCL.out.mono ?_)
                  rintro e wb ⟨rfl, hwb⟩
                  have qf := (hwb.block (w.heap.size + 1) pf_l).trans PF.out
                  have hBb := HB.out.trans (hwb.mono (by omega))
                  have HBB := Lib.hid hBb
                  clear hBb
                  have qf_0 := cv0 qf
                  have qf_1 := cv1 qf
                  have qf_f0 := free_heap qf 0
                  have qf_f1 := free_heap qf 1
                  have qf_l := lt_heap qf
                  have QF := Lib.hid qf
                  clear qf
                  clear pf_0 pf_1 pf_f0 pf_f1 pf_l
                  go_wp2_with fail
                  go_meet
                  exact ⟨at2 QF.out, below2 HBB.out (by omega)⟩
                case rest =>
                obtain ⟨k1, kB⟩ := hcut
                rename World => wret
                have KB := Lib.hid kB
                clear kB
                have k1_0 := cv0 k1
                have k1_1 := cv1 k1
                have k1_l := lt_heap k1
                have K1 := Lib.hid k1
                clear k1
                go_step
                refine wp_ret ?_
                refine bodyPost_ret (v := .agg #[.int .i64 3, .int .i64 (j : Nat)]) ?hres ?hd ?_
                case hd => rfl
                case hres => simp [results, Tryd.results44, go_sem, k1_0, k1_1, k1_l]
                exact HE.out 3 j HR.out _ KB.out
              · skip
                have hcl := bad2_any E 3 (j : Nat) wt pi_0
                have HCL := Lib.hid hcl
                clear hcl
                go_upto_region 35 with (fail)
                go_cut [] (fun wc2 => wc2.heap[w.heap.size + 1]? = some (.cells #[.int .i64 3, .int .i64 (j : Nat)] 31 (0, 0)) ∧ Below w.heap.size w wc2)
                case first =>
                  go_wp2_with fail
                  (with_reducible refine HCL.out.mono ?_)
                  rintro e wb ⟨rfl, hwb⟩
                  have qf := (hwb.block (w.heap.size + 1) pf_l).trans PF.out
                  have hBb := HB.out.trans (hwb.mono (by omega))
                  have HBB := Lib.hid hBb
                  clear hBb
                  have qf_0 := cv0 qf
                  have qf_1 := cv1 qf
                  have qf_f0 := free_heap qf 0
                  have qf_f1 := free_heap qf 1
                  have qf_l := lt_heap qf
                  have QF := Lib.hid qf
                  clear qf
                  clear pf_0 pf_1 pf_f0 pf_f1 pf_l
                  go_wp2_with fail
                  go_meet
                  exact ⟨at2 QF.out, below2 HBB.out (by omega)⟩
                case rest =>
                obtain ⟨k1, kB⟩ := hcut
                rename World => wret
                have KB := Lib.hid kB
                clear kB
                have k1_0 := cv0 k1
                have k1_1 := cv1 k1
                have k1_l := lt_heap k1
                have K1 := Lib.hid k1
                clear k1
                go_step
                refine wp_ret ?_
                refine bodyPost_ret (v := .agg #[.int .i64 3, .int .i64 (j : Nat)]) ?hres ?hd ?_
                case hd => rfl
                case hres => simp [results, Tryd.results44, go_sem, k1_0, k1_1, k1_l]
                exact HE.out 3 j HR.out _ KB.out
            · have htk2 : (tu.take (q + 1)).any (badV sz) = false := by rw [htk, hany]; simp [badV]; omega
              have r5 : ¬ v < 0 := by omega
              have r6 : ¬ sz ≤ v := by omega
              clear hvb hv hmem htk hany
              have HTK2 := Lib.hid htk2
              clear htk2
              go_wp2_with fail
              go_roundg (tu.length - (q + 1))
              case measure => omega
              case rel => exact ⟨q + 1, by go_num, by trivial, by omega, HTK2.out⟩
    rw [consF_step hjl] at hc
    obtain ⟨b, o, hA, hSb, e0, e1, hn⟩ := con_at HC2.out hjl
    subst hA
    have hbl := HS.out b hSb
    have hbl2 : b < wr.heap.size := by omega
    have hbl3 : b < wr.heap.size + 1 := by omega
    have hbl4 : b < wr.heap.size + 1 + 1 := by omega
    obtain ⟨⟨nm, v⟩, hv⟩ : ∃ x, cl[j] = x := ⟨_, rfl⟩
    rw [hv] at e0 e1 hn hc
    simp only at e0 e1 hn
    have hnm := fun W : World => name_any nm W hn
    have q1 : (j : Int) < (cl.length : Int) := by omega
    have q0 : (0 : Int) ≤ (j : Int) := by omega
    have hpv : ∀ p, prevOf cl j = some p → ∃ i, j = i + 1 ∧ wr.cell? ⟨b, o + i * 2, none⟩ = some (.string p.nm) := by
      intro p hp
      cases j with
      | zero => cases hp
      | succ i =>
        obtain ⟨b2, o2, hA2, _, f0, _⟩ := con_at HC2.out (j := i) (by omega)
        simp only [Option.some.injEq, Addr.mk.injEq] at hA2
        obtain ⟨rfl, rfl, _⟩ := hA2
        refine ⟨i, rfl, ?_⟩
        have : cl[i]? = some p := hp
        rw [List.getElem?_eq_getElem (by omega)] at this
        rw [← Option.some.inj this]
        exact f0
    obtain ⟨pv, hpe⟩ : ∃ pv, prevOf cl j = pv := ⟨_, rfl⟩
    rw [hpe] at hc hpv
    have hpv0 : pv = none → j = 0 := by
      intro e
      rw [e] at hpe
      cases j with
      | zero => rfl
      | succ i =>
        have h3 : cl[i]? = none := hpe
        rw [List.getElem?_eq_getElem (by omega)] at h3
        cases h3
    have HC := Lib.hid hc
    have HNM := Lib.hid hnm
    have HPV := Lib.hid hpv
    have HPV0 := Lib.hid hpv0
    clear hc hnm hpv hpv0
    clear hv hpe
    go_upto_region 9 with (fail)
    refine gen_last (fun W => W.heap[w.heap.size]? = some (.cells #[.int .i64 sz, .slice (some ⟨b, o, none⟩) cl.length c, .slice B rl.length d] 25 (0, 0)) ∧ W.heap[w.heap.size + 1]? = some (.cells #[.int .i64 0, .int .i64 0] 31 (0, 0)) ∧ W.heap[wr.heap.size]? = some (.cells #[.int .i64 (j : Nat)] 3 (0, 0)) ∧ W.heap[wr.heap.size + 1]? = some (.cells #[.string nm, .int .i64 v] 56 (0, 0)) ∧ (∀ k, k < wr.heap.size → W.heap[k]? = wr.heap[k]?) ∧ Below w.heap.size w W ∧ wr.heap.size + 2 ≤ W.heap.size) ?_ ?_
    · exact ⟨heap_old (by simp; omega) (heap_old p0_l P0.out), heap_old (by simp; omega) (heap_old pf_l PF.out), heap_old (by simp) (heap_at rfl), heap_at (by simp), fun k hk => heap_old (by simp; omega) (heap_old hk rfl), (HB.out.alloc (by omega) _).alloc (by simp; omega) _, by simp⟩
    rintro wo ⟨p0, pf, pi, pc, hkw, hB, zo⟩
    have hcode : ∀ c, conCode sz pv ⟨nm, v⟩ = c → c ≠ 0 → mdFault ⟨sz, cl, rl⟩ = (c, j) := fun c e hne => by
      have h3 := HC.out
      rw [e, if_neg hne] at h3
      exact (HBAD.out (by rw [← h3]; exact hne)).trans h3.symm
    have hnext : conCode sz pv ⟨nm, v⟩ = 0 → consF sz (prevOf cl (j + 1)) (j + 1) (cl.drop (j + 1)) = consF sz none 0 cl := fun e => by
      have h3 := HC.out
      rwa [e, if_pos rfl] at h3
    clear p0_0 p0_1 p0_2 p0_l pf_0 pf_1 pf_f0 pf_f1 pf_l e0 e1 P0 PF HB
    have HKW := Lib.hid hkw
    have HB := Lib.hid hB
    have HCODE := Lib.hid hcode
    have HNEXT := Lib.hid hnext
    clear hkw hB hcode hnext
    have p0_0 := cv0 p0
    have p0_1 := cv1 p0
    have p0_2 := cv2 p0
    have p0_l := lt_heap p0
    have P0 := Lib.hid p0
    clear p0
    have pf_0 := cv0 pf
    have pf_1 := cv1 pf
    have pf_f0 := free_heap pf 0
    have pf_f1 := free_heap pf 1
    have pf_l := lt_heap pf
    have PF := Lib.hid pf
    clear pf
    have pi_0 := cv0 pi
    have pi_l := lt_heap pi
    have PI := Lib.hid pi
    clear pi
    have pc_0 := cv0 pc
    have pc_1 := cv1 pc
    have pc_l := lt_heap pc
    have PC := Lib.hid pc
    clear pc
    go_wp2_with fail
    (with_reducible refine (HNM.out _).mono ?_)
    rintro e wz ⟨rfl, rfl⟩
    cases hok : okName nm with
    | false =>
      have hr := HCODE.out 10 (by unfold conCode; rw [if_pos hok]) (by decide)
      have HR := Lib.hid hr
      clear hr
      clear hok
      have hcl := bad1_any wr.heap.size 10 (j : Nat) wo pi_0
      have HCL := Lib.hid hcl
      clear hcl
      go_upto_region 10 with (fail)
      go_cut [] (fun wc2 => wc2.heap[w.heap.size + 1]? = some (.cells #[.int .i64 10, .int .i64 (j : Nat)] 31 (0, 0)) ∧ Below w.heap.size w wc2)
      case first =>
        go_wp2_with fail
        (with_reducible refine HCL.out.mono ?_)
        rintro e wb ⟨rfl, hwb⟩
        have qf := (hwb.block (w.heap.size + 1) pf_l).trans PF.out
        have hBb := HB.out.trans (hwb.mono (by omega))
        have HBB := Lib.hid hBb
        clear hBb
        have qf_0 := cv0 qf
        have qf_1 := cv1 qf
        have qf_f0 := free_heap qf 0
        have qf_f1 := free_heap qf 1
        have qf_l := lt_heap qf
        have QF := Lib.hid qf
        clear qf
        clear pf_0 pf_1 pf_f0 pf_f1 pf_l
        go_wp2_with fail
        go_meet
        exact ⟨at2 QF.out, below2 HBB.out (by omega)⟩
      case rest =>
      obtain ⟨k1, kB⟩ := hcut
      rename World => wret
      have KB := Lib.hid kB
      clear kB
      have k1_0 := cv0 k1
      have k1_1 := cv1 k1
      have k1_l := lt_heap k1
      have K1 := Lib.hid k1
      clear k1
      go_step
      refine wp_ret ?_
      refine bodyPost_ret (v := .agg #[.int .i64 10, .int .i64 (j : Nat)]) ?hres ?hd ?_
      case hd => rfl
      case hres => simp [results, Tryd.results44, go_sem, k1_0, k1_1, k1_l]
      exact HE.out 10 j HR.out _ KB.out
    | true =>
    have HOK := Lib.hid hok
    clear hok
    have hbo : b < wo.heap.size := by omega
    go_upto_region 11 with (fail)
    go_cut [61] (fun s61 wx => ∃ bb : Bool, s61 = .bool bb ∧ bb = (pv.any fun p => decide (0 ≤ cmpS p.nm nm)) ∧ wx.heap[w.heap.size]? = some (.cells #[.int .i64 sz, .slice (some ⟨b, o, none⟩) cl.length c, .slice B rl.length d] 25 (0, 0)) ∧ wx.heap[w.heap.size + 1]? = some (.cells #[.int .i64 0, .int .i64 0] 31 (0, 0)) ∧ wx.heap[wr.heap.size]? = some (.cells #[.int .i64 (j : Nat)] 3 (0, 0)) ∧ wx.heap[wr.heap.size + 1]? = some (.cells #[.string nm, .int .i64 v] 56 (0, 0)) ∧ Below w.heap.size w wx ∧ wr.heap.size + 2 ≤ wx.heap.size)
    case first =>
      cases pv with
      | none =>
        have t1 : decide ((0 : Int) < (j : Int)) = false := decide_eq_false (by have := HPV0.out rfl; omega)
        have t1n : decide (0 < j) = false := decide_eq_false (by have := HPV0.out rfl; omega)
        go_big_quiet (fail)
        go_wp2_with fail
        go_meet
        exact ⟨false, rfl, rfl, P0.out, PF.out, PI.out, PC.out, (below_nq HB.out _), zo⟩
      | some p =>
        obtain ⟨i, hji, f0⟩ := HPV.out p rfl
        have t1 : decide ((0 : Int) < (j : Int)) = true := decide_eq_true (by omega)
        have t1n : decide (0 < j) = true := decide_eq_true (by omega)
        have f1 := (cell_keep (HKW.out b hbl2) (o + i * 2)).trans f0
        have hj1 : (j : Int) - 1 = (i : Int) := by omega
        have u0 : (0 : Int) ≤ (i : Int) := by omega
        have u1 : (i : Int) < (cl.length : Int) := by omega
        obtain ⟨bl, hb⟩ : ∃ bl, Op.bytesLess p.nm.toList nm.toList = bl := ⟨_, rfl⟩
        have hany : (!bl) = ((some p).any fun p => decide (0 ≤ cmpS p.nm nm)) := by
          simp only [Option.any_some, cmpS_ge, hb]
          cases bl <;> rfl
        have HANY := Lib.hid hany
        clear hany hji f0
        go_big_quiet (fail)
        go_wp2_with fail
        go_meet
        exact ⟨!bl, rfl, HANY.out, P0.out, PF.out, PI.out, PC.out, (below_nq HB.out _), zo⟩
    case rest =>
    obtain ⟨bb, rfl, hbb, p0, pf, pi, pc, hB, zo⟩ := hcut
    rename World => wx
    clear p0_0 p0_1 p0_2 p0_l pf_0 pf_1 pf_f0 pf_f1 pf_l pi_0 pi_l pc_0 pc_1 pc_l P0 PF HB PI PC hbo HPV HPV0 HKW HNM
    have hbo : b < wx.heap.size := by omega
    have HBB := Lib.hid hbb
    have HB := Lib.hid hB
    clear hbb hB
    have p0_0 := cv0 p0
    have p0_1 := cv1 p0
    have p0_2 := cv2 p0
    have p0_l := lt_heap p0
    have P0 := Lib.hid p0
    clear p0
    have pf_0 := cv0 pf
    have pf_1 := cv1 pf
    have pf_f0 := free_heap pf 0
    have pf_f1 := free_heap pf 1
    have pf_l := lt_heap pf
    have PF := Lib.hid pf
    clear pf
    have pi_0 := cv0 pi
    have pi_l := lt_heap pi
    have PI := Lib.hid pi
    clear pi
    have pc_0 := cv0 pc
    have pc_1 := cv1 pc
    have pc_l := lt_heap pc
    have PC := Lib.hid pc
    clear pc
    cases bb with
    | true =>
      have hr := HCODE.out 13 (by unfold conCode; rw [if_neg (by rw [HOK.out]; decide), if_pos HBB.out.symm]) (by decide)
      have HR := Lib.hid hr
      clear hr
      have hcl := bad1_any wr.heap.size 13 (j : Nat) wx pi_0
      have HCL := Lib.hid hcl
      clear hcl
      go_upto_region 12 with (fail)
      go_cut [] (fun wc2 => wc2.heap[w.heap.size + 1]? = some (.cells #[.int .i64 13, .int .i64 (j : Nat)] 31 (0, 0)) ∧ Below w.heap.size w wc2)
      case first =>
        go_wp2_with fail
        (with_reducible refine HCL.out.mono ?_)
        rintro e wb ⟨rfl, hwb⟩
        have qf := (hwb.block (w.heap.size + 1) pf_l).trans PF.out
        have hBb := HB.out.trans (hwb.mono (by omega))
        have HBB := Lib.hid hBb
        clear hBb
        have qf_0 := cv0 qf
        have qf_1 := cv1 qf
        have qf_f0 := free_heap qf 0
        have qf_f1 := free_heap qf 1
        have qf_l := lt_heap qf
        have QF := Lib.hid qf
        clear qf
        clear pf_0 pf_1 pf_f0 pf_f1 pf_l
        go_wp2_with fail
        go_meet
        exact ⟨at2 QF.out, below2 HBB.out (by omega)⟩
      case rest =>
      obtain ⟨k1, kB⟩ := hcut
      rename World => wret
      have KB := Lib.hid kB
      clear kB
      have k1_0 := cv0 k1
      have k1_1 := cv1 k1
      have k1_l := lt_heap k1
      have K1 := Lib.hid k1
      clear k1
      go_step
      refine wp_ret ?_
      refine bodyPost_ret (v := .agg #[.int .i64 13, .int .i64 (j : Nat)]) ?hres ?hd ?_
      case hd => rfl
      case hres => simp [results, Tryd.results44, go_sem, k1_0, k1_1, k1_l]
      exact HE.out 13 j HR.out _ KB.out
    | false =>
    have hne : ¬ (pv.any fun p => decide (0 ≤ cmpS p.nm nm)) = true := by rw [← HBB.out]; decide
    by_cases hv : v < 0 ∨ sz ≤ v
    · have hr := HCODE.out 3 (by unfold conCode; rw [if_neg (by rw [HOK.out]; decide), if_neg hne, if_pos (by simp [badV]; exact hv)]) (by decide)
      have hv2 : v < 0 ∨ (¬ v < 0 ∧ sz ≤ v) := by omega
      have HR := Lib.hid hr
      have HNE := Lib.hid hne
      clear hr hne
      clear hv
      rcases hv2 with q5 | ⟨q5, q6⟩
      · skip
        have hcl := bad1_any wr.heap.size 3 (j : Nat) wx pi_0
        have HCL := Lib.hid hcl
        clear hcl
        go_upto_region 14 with (fail)
        go_cut [] (fun wc2 => wc2.heap[w.heap.size + 1]? = some (.cells #[.int .i64 3, .int .i64 (j : Nat)] 31 (0, 0)) ∧ Below w.heap.size w wc2)
        case first =>
          go_wp2_with fail
          (with_reducible refine HCL.out.mono ?_)
          rintro e wb ⟨rfl, hwb⟩
          have qf := (hwb.block (w.heap.size + 1) pf_l).trans PF.out
          have hBb := HB.out.trans (hwb.mono (by omega))
          have HBB := Lib.hid hBb
          clear hBb
          have qf_0 := cv0 qf
          have qf_1 := cv1 qf
          have qf_f0 := free_heap qf 0
          have qf_f1 := free_heap qf 1
          have qf_l := lt_heap qf
          have QF := Lib.hid qf
          clear qf
          clear pf_0 pf_1 pf_f0 pf_f1 pf_l
          go_wp2_with fail
          go_meet
          exact ⟨at2 QF.out, below2 HBB.out (by omega)⟩
        case rest =>
        obtain ⟨k1, kB⟩ := hcut
        rename World => wret
        have KB := Lib.hid kB
        clear kB
        have k1_0 := cv0 k1
        have k1_1 := cv1 k1
        have k1_l := lt_heap k1
        have K1 := Lib.hid k1
        clear k1
        go_step
        refine wp_ret ?_
        refine bodyPost_ret (v := .agg #[.int .i64 3, .int .i64 (j : Nat)]) ?hres ?hd ?_
        case hd => rfl
        case hres => simp [results, Tryd.results44, go_sem, k1_0, k1_1, k1_l]
        exact HE.out 3 j HR.out _ KB.out
      · skip
        have hcl := bad1_any wr.heap.size 3 (j : Nat) wx pi_0
        have HCL := Lib.hid hcl
        clear hcl
        go_upto_region 14 with (fail)
        go_cut [] (fun wc2 => wc2.heap[w.heap.size + 1]? = some (.cells #[.int .i64 3, .int .i64 (j : Nat)] 31 (0, 0)) ∧ Below w.heap.size w wc2)
        case first =>
          go_wp2_with fail
          (with_reducible refine HCL.out.mono ?_)
          rintro e wb ⟨rfl, hwb⟩
          have qf := (hwb.block (w.heap.size + 1) pf_l).trans PF.out
          have hBb := HB.out.trans (hwb.mono (by omega))
          have HBB := Lib.hid hBb
          clear hBb
          have qf_0 := cv0 qf
          have qf_1 := cv1 qf
          have qf_f0 := free_heap qf 0
          have qf_f1 := free_heap qf 1
          have qf_l := lt_heap qf
          have QF := Lib.hid qf
          clear qf
          clear pf_0 pf_1 pf_f0 pf_f1 pf_l
          go_wp2_with fail
          go_meet
          exact ⟨at2 QF.out, below2 HBB.out (by omega)⟩
        case rest =>
        obtain ⟨k1, kB⟩ := hcut
        rename World => wret
        have KB := Lib.hid kB
        clear kB
        have k1_0 := cv0 k1
        have k1_1 := cv1 k1
        have k1_l := lt_heap k1
        have K1 := Lib.hid k1
        clear k1
        go_step
        refine wp_ret ?_
        refine bodyPost_ret (v := .agg #[.int .i64 3, .int .i64 (j : Nat)]) ?hres ?hd ?_
        case hd => rfl
        case hres => simp [results, Tryd.results44, go_sem, k1_0, k1_1, k1_l]
        exact HE.out 3 j HR.out _ KB.out
    · have hnx := HNEXT.out (by unfold conCode; rw [if_neg (by rw [HOK.out]; decide), if_neg hne, if_neg (by simp [badV]; omega)])
      have q5 : ¬ v < 0 := by omega
      have q6 : ¬ sz ≤ v := by omega
      have HNX := Lib.hid hnx
      have HNE := Lib.hid hne
      clear hnx hne
      clear hv
      go_wp2_with fail
      go_roundg (cl.length - (j + 1))
      case measure => omega
      case rel => exact ⟨j + 1, by go_num, by omega, HNX.out, P0.out, PF.out, HB.out⟩
end

section
open Go Go.RowKit
set_option linter.unusedSimpArgs false
set_option linter.unusedVariables false
noncomputable def c_vl_r17 : Code := sub [1, 1, 0, 1, 0, 1, 1, 1, 1, 1, 1, 0] (Tryd.f48.body.getD .skip)
set_option maxRecDepth 1000000 in
set_option maxHeartbeats 16000000 in
theorem vl_r17_wp {Q : Exit → Act → World → Prop} {kd : Int} {wo w : World} (hN : ∀ a', Frm 168 [(3, .pointer (some ⟨wo.heap.size, 0, none⟩)), (4, .pointer (some ⟨(wo.heap.size + 1), 0, none⟩)), (5, .pointer (some ⟨(wo.heap.size + 1 + 1), 0, none⟩)), (7, .func (Fn.func 82) #[] #[.pointer (some ⟨(wo.heap.size + 1 + 1), 0, none⟩), .pointer (some ⟨wo.heap.size, 0, none⟩)]), (18, .int .i64 kd), (69, .bool (decide (kd = 4)))] a' → Q .normal a' w) : ∀ ac, Frm 168 [(3, .pointer (some ⟨wo.heap.size, 0, none⟩)), (4, .pointer (some ⟨(wo.heap.size + 1), 0, none⟩)), (5, .pointer (some ⟨(wo.heap.size + 1 + 1), 0, none⟩)), (7, .func (Fn.func 82) #[] #[.pointer (some ⟨(wo.heap.size + 1 + 1), 0, none⟩), .pointer (some ⟨wo.heap.size, 0, none⟩)]), (18, .int .i64 kd)] ac → Code.wp Tryd.prog c_vl_r17 Q ac w := by
  refine frm_open ?_
  refine frame_vl ?_
  intros
  rename_i hq
  obtain ⟨-, -, e0q, e1q, e2q, e3q, e4q, -⟩ := hq
  obtain rfl := sI e0q
  obtain rfl := sI e1q
  obtain rfl := sI e2q
  obtain rfl := sI e3q
  obtain rfl := sI e4q
  conv => arg 2; whnf
  by_cases h : kd = 4
  · have t1 : (kd == 4) = true := beq_iff_eq.2 h
    rw [decide_eq_true h] at hN
    clear h
    have HN := Lib.hid hN
    clear hN
    go_wp2_with fail
    exact HN.out _ (id ⟨rfl, rfl, rfl, rfl, rfl, rfl, rfl, rfl, trivial⟩)
  · have t1 : (kd == 4) = false := beq_eq_false_iff_ne.2 h
    rw [decide_eq_false h] at hN
    clear h
    have HN := Lib.hid hN
    clear hN
    go_wp2_with fail
    exact HN.out _ (id ⟨rfl, rfl, rfl, rfl, rfl, rfl, rfl, rfl, trivial⟩)
noncomputable def c_vl_r19 : Code := sub [1, 1, 0, 1, 0, 1, 1, 1, 1, 1, 1, 1, 1, 0] (Tryd.f48.body.getD .skip)
set_option maxRecDepth 1000000 in
set_option maxHeartbeats 16000000 in
theorem vl_r19_wp {Q : Exit → Act → World → Prop} {kd : Int} {wo w : World} (hN : ∀ a', Frm 168 [(3, .pointer (some ⟨wo.heap.size, 0, none⟩)), (4, .pointer (some ⟨(wo.heap.size + 1), 0, none⟩)), (5, .pointer (some ⟨(wo.heap.size + 1 + 1), 0, none⟩)), (7, .func (Fn.func 82) #[] #[.pointer (some ⟨(wo.heap.size + 1 + 1), 0, none⟩), .pointer (some ⟨wo.heap.size, 0, none⟩)]), (18, .int .i64 kd), (79, .bool (decide (kd = 5)))] a' → Q .normal a' w) : ∀ ac, Frm 168 [(3, .pointer (some ⟨wo.heap.size, 0, none⟩)), (4, .pointer (some ⟨(wo.heap.size + 1), 0, none⟩)), (5, .pointer (some ⟨(wo.heap.size + 1 + 1), 0, none⟩)), (7, .func (Fn.func 82) #[] #[.pointer (some ⟨(wo.heap.size + 1 + 1), 0, none⟩), .pointer (some ⟨wo.heap.size, 0, none⟩)]), (18, .int .i64 kd)] ac → Code.wp Tryd.prog c_vl_r19 Q ac w := by
  refine frm_open ?_
  refine frame_vl ?_
  intros
  rename_i hq
  obtain ⟨-, -, e0q, e1q, e2q, e3q, e4q, -⟩ := hq
  obtain rfl := sI e0q
  obtain rfl := sI e1q
  obtain rfl := sI e2q
  obtain rfl := sI e3q
  obtain rfl := sI e4q
  conv => arg 2; whnf
  by_cases h : kd = 5
  · have t1 : (kd == 5) = true := beq_iff_eq.2 h
    rw [decide_eq_true h] at hN
    clear h
    have HN := Lib.hid hN
    clear hN
    go_wp2_with fail
    exact HN.out _ (id ⟨rfl, rfl, rfl, rfl, rfl, rfl, rfl, rfl, trivial⟩)
  · have t1 : (kd == 5) = false := beq_eq_false_iff_ne.2 h
    rw [decide_eq_false h] at hN
    clear h
    have HN := Lib.hid hN
    clear hN
    go_wp2_with fail
    exact HN.out _ (id ⟨rfl, rfl, rfl, rfl, rfl, rfl, rfl, rfl, trivial⟩)
noncomputable def c_vl_r21 : Code := sub [1, 1, 0, 1, 0, 1, 1, 1, 1, 1, 1, 1, 1, 1, 1, 0] (Tryd.f48.body.getD .skip)
set_option maxRecDepth 1000000 in
set_option maxHeartbeats 16000000 in
theorem vl_r21_wp {Q : Exit → Act → World → Prop} {kd : Int} {wo w : World} (hN : ∀ a', Frm 168 [(3, .pointer (some ⟨wo.heap.size, 0, none⟩)), (4, .pointer (some ⟨(wo.heap.size + 1), 0, none⟩)), (5, .pointer (some ⟨(wo.heap.size + 1 + 1), 0, none⟩)), (7, .func (Fn.func 82) #[] #[.pointer (some ⟨(wo.heap.size + 1 + 1), 0, none⟩), .pointer (some ⟨wo.heap.size, 0, none⟩)]), (18, .int .i64 kd), (97, .bool (decide (kd = 6)))] a' → Q .normal a' w) : ∀ ac, Frm 168 [(3, .pointer (some ⟨wo.heap.size, 0, none⟩)), (4, .pointer (some ⟨(wo.heap.size + 1), 0, none⟩)), (5, .pointer (some ⟨(wo.heap.size + 1 + 1), 0, none⟩)), (7, .func (Fn.func 82) #[] #[.pointer (some ⟨(wo.heap.size + 1 + 1), 0, none⟩), .pointer (some ⟨wo.heap.size, 0, none⟩)]), (18, .int .i64 kd)] ac → Code.wp Tryd.prog c_vl_r21 Q ac w := by
  refine frm_open ?_
  refine frame_vl ?_
  intros
  rename_i hq
  obtain ⟨-, -, e0q, e1q, e2q, e3q, e4q, -⟩ := hq
  obtain rfl := sI e0q
  obtain rfl := sI e1q
  obtain rfl := sI e2q
  obtain rfl := sI e3q
  obtain rfl := sI e4q
  conv => arg 2; whnf
  by_cases h : kd = 6
  · have t1 : (kd == 6) = true := beq_iff_eq.2 h
    rw [decide_eq_true h] at hN
    clear h
    have HN := Lib.hid hN
    clear hN
    go_wp2_with fail
    exact HN.out _ (id ⟨rfl, rfl, rfl, rfl, rfl, rfl, rfl, rfl, trivial⟩)
  · have t1 : (kd == 6) = false := beq_eq_false_iff_ne.2 h
    rw [decide_eq_false h] at hN
    clear h
    have HN := Lib.hid hN
    clear hN
    go_wp2_with fail
    exact HN.out _ (id ⟨rfl, rfl, rfl, rfl, rfl, rfl, rfl, rfl, trivial⟩)
noncomputable def c_vl_r23 : Code := sub [1, 1, 0, 1, 0, 1, 1, 1, 1, 1, 1, 1, 1, 1, 1, 1, 1, 0] (Tryd.f48.body.getD .skip)
set_option maxRecDepth 1000000 in
set_option maxHeartbeats 16000000 in
theorem vl_r23_wp {Q : Exit → Act → World → Prop} {kd : Int} {wo w : World} (hN : ∀ a', Frm 168 [(3, .pointer (some ⟨wo.heap.size, 0, none⟩)), (4, .pointer (some ⟨(wo.heap.size + 1), 0, none⟩)), (5, .pointer (some ⟨(wo.heap.size + 1 + 1), 0, none⟩)), (7, .func (Fn.func 82) #[] #[.pointer (some ⟨(wo.heap.size + 1 + 1), 0, none⟩), .pointer (some ⟨wo.heap.size, 0, none⟩)]), (18, .int .i64 kd), (115, .bool (decide (kd = 7)))] a' → Q .normal a' w) : ∀ ac, Frm 168 [(3, .pointer (some ⟨wo.heap.size, 0, none⟩)), (4, .pointer (some ⟨(wo.heap.size + 1), 0, none⟩)), (5, .pointer (some ⟨(wo.heap.size + 1 + 1), 0, none⟩)), (7, .func (Fn.func 82) #[] #[.pointer (some ⟨(wo.heap.size + 1 + 1), 0, none⟩), .pointer (some ⟨wo.heap.size, 0, none⟩)]), (18, .int .i64 kd)] ac → Code.wp Tryd.prog c_vl_r23 Q ac w := by
  refine frm_open ?_
  refine frame_vl ?_
  intros
  rename_i hq
  obtain ⟨-, -, e0q, e1q, e2q, e3q, e4q, -⟩ := hq
  obtain rfl := sI e0q
  obtain rfl := sI e1q
  obtain rfl := sI e2q
  obtain rfl := sI e3q
  obtain rfl := sI e4q
  conv => arg 2; whnf
  by_cases h : kd = 7
  · have t1 : (kd == 7) = true := beq_iff_eq.2 h
    rw [decide_eq_true h] at hN
    clear h
    have HN := Lib.hid hN
    clear hN
    go_wp2_with fail
    exact HN.out _ (id ⟨rfl, rfl, rfl, rfl, rfl, rfl, rfl, rfl, trivial⟩)
  · have t1 : (kd == 7) = false := beq_eq_false_iff_ne.2 h
    rw [decide_eq_false h] at hN
    clear h
    have HN := Lib.hid hN
    clear hN
    go_wp2_with fail
    exact HN.out _ (id ⟨rfl, rfl, rfl, rfl, rfl, rfl, rfl, rfl, trivial⟩)
noncomputable def c_vl_r18 : Code := sub [1, 1, 0, 1, 0, 1, 1, 1, 1, 1, 1, 1, 0, 0] (Tryd.f48.body.getD .skip)
set_option maxRecDepth 1000000 in
set_option maxHeartbeats 16000000 in
theorem vl_r18_wp {K : Act → World → Prop} {b1 : Bool} {b o : Nat} {k0 : Int} {s0 : ByteArray} {A0 B0 : Option Addr} {p0 q0 r0 u0 : Nat} {De : Option Addr} {me ee : Nat} {z : Int} {Am Bm : Option Addr} {nm1 cm nm2 dm : Nat} {wo w : World} {kd : Int} {nm : ByteArray} {A : Option Addr} {n1 c1 c2 : Nat} (hgm : w.heap[wo.heap.size]? = some (.cells #[.int .i64 z, .slice Am nm1 cm, .slice Bm nm2 dm] 25 (0, 0))) (ha : w.heap[wo.heap.size + 1]? = some (.cells #[.int .i64 kd, .string nm, .slice A n1 c1, .slice (some ⟨b, o, none⟩) 1 c2] 29 (0, 0))) (hge : w.heap[wo.heap.size + 1 + 1]? = some (.cells #[.slice De me ee] 71 (0, 0))) (e0_0 : w.cell? ⟨b, o, none⟩ = some (.int .i64 k0)) (e0_1 : w.cell? ⟨b, o + 1, none⟩ = some (.string s0)) (e0_2 : w.cell? ⟨b, o + 2, none⟩ = some (.slice A0 p0 q0)) (e0_3 : w.cell? ⟨b, o + 3, none⟩ = some (.slice B0 r0 u0)) (hbl : b < w.heap.size) (hc1 : ∀ W : World, Below w.heap.size w W → Calls Tryd.prog 48 #[.agg #[.int .i64 z, .slice Am nm1 cm, .slice Bm nm2 dm], .agg #[.int .i64 k0, .string s0, .slice A0 p0 q0, .slice B0 r0 u0], .slice De me ee] W fun e w' => e = .returned (.bool b1) ∧ Below w.heap.size w w') (hN : ∀ a' w', Frm 168 [(6, .bool (!b1))] a' → Below w.heap.size w w' → K a' w') : ∀ ac, Frm 168 [(3, .pointer (some ⟨wo.heap.size, 0, none⟩)), (4, .pointer (some ⟨(wo.heap.size + 1), 0, none⟩)), (5, .pointer (some ⟨(wo.heap.size + 1 + 1), 0, none⟩)), (7, .func (Fn.func 82) #[] #[.pointer (some ⟨(wo.heap.size + 1 + 1), 0, none⟩), .pointer (some ⟨wo.heap.size, 0, none⟩)])] ac → Code.wp Tryd.prog c_vl_r18 (Exit.then K (fun _ _ _ => False)) ac w := by
  refine frm_open ?_
  refine frame_vl ?_
  intros
  rename_i hq
  obtain ⟨-, -, e0q, e1q, e2q, e3q, -⟩ := hq
  obtain rfl := sI e0q
  obtain rfl := sI e1q
  obtain rfl := sI e2q
  obtain rfl := sI e3q
  conv => arg 2; whnf
  have a0 := cellv ha 0 rfl
  have a1 := cellv ha 1 rfl
  have a2 := cellv ha 2 rfl
  have a3 := cellv ha 3 rfl
  have al := lt_heap ha
  clear ha
  have m0 := cellv hgm 0 rfl
  have m1 := cellv hgm 1 rfl
  have m2 := cellv hgm 2 rfl
  have ml := lt_heap hgm
  clear hgm
  have g0 := cellv hge 0 rfl
  have gl := lt_heap hge
  clear hge
  have HC1 := Lib.hid hc1
  have HN := Lib.hid hN
  clear hc1 hN
  go_region_law (first
    | (refine step_call (by rfl) 48 _ ?hargs (HC1.out _ ?hbel) ?_; (case hargs => (go_simp; done)); (case hbel => first | exact Below.refl _ _ | exact (Below.refl _ _).drew); rintro e w1 ⟨rfl, hb1⟩; refine ⟨_, rfl, ?_⟩; have HB1 := Lib.hid hb1; clear hb1))
  all_goals go_wp2_with fail
  all_goals exact HN.out _ _ (id ⟨rfl, rfl, rfl, trivial⟩) HB1.out
noncomputable def c_vl_r20 : Code := sub [1, 1, 0, 1, 0, 1, 1, 1, 1, 1, 1, 1, 1, 1, 0, 0] (Tryd.f48.body.getD .skip)
set_option maxRecDepth 1000000 in
set_option maxHeartbeats 16000000 in
theorem vl_r20_wp {K : Act → World → Prop} {b1 b2 : Bool} {b o : Nat} {k0 : Int} {s0 : ByteArray} {A0 B0 : Option Addr} {p0 q0 r0 u0 : Nat} {k1 : Int} {s1 : ByteArray} {A1 B1 : Option Addr} {p1 q1 r1 u1 : Nat} {De : Option Addr} {me ee : Nat} {z : Int} {Am Bm : Option Addr} {nm1 cm nm2 dm : Nat} {wo w : World} {kd : Int} {nm : ByteArray} {A : Option Addr} {n1 c1 c2 : Nat} (hgm : w.heap[wo.heap.size]? = some (.cells #[.int .i64 z, .slice Am nm1 cm, .slice Bm nm2 dm] 25 (0, 0))) (ha : w.heap[wo.heap.size + 1]? = some (.cells #[.int .i64 kd, .string nm, .slice A n1 c1, .slice (some ⟨b, o, none⟩) 2 c2] 29 (0, 0))) (hge : w.heap[wo.heap.size + 1 + 1]? = some (.cells #[.slice De me ee] 71 (0, 0))) (e0_0 : w.cell? ⟨b, o, none⟩ = some (.int .i64 k0)) (e0_1 : w.cell? ⟨b, o + 1, none⟩ = some (.string s0)) (e0_2 : w.cell? ⟨b, o + 2, none⟩ = some (.slice A0 p0 q0)) (e0_3 : w.cell? ⟨b, o + 3, none⟩ = some (.slice B0 r0 u0)) (e1_0 : w.cell? ⟨b, o + 4, none⟩ = some (.int .i64 k1)) (e1_1 : w.cell? ⟨b, o + 5, none⟩ = some (.string s1)) (e1_2 : w.cell? ⟨b, o + 6, none⟩ = some (.slice A1 p1 q1)) (e1_3 : w.cell? ⟨b, o + 7, none⟩ = some (.slice B1 r1 u1)) (hbl : b < w.heap.size) (hc1 : ∀ W : World, Below w.heap.size w W → Calls Tryd.prog 48 #[.agg #[.int .i64 z, .slice Am nm1 cm, .slice Bm nm2 dm], .agg #[.int .i64 k0, .string s0, .slice A0 p0 q0, .slice B0 r0 u0], .slice De me ee] W fun e w' => e = .returned (.bool b1) ∧ Below w.heap.size w w') (hc2 : ∀ W : World, Below w.heap.size w W → Calls Tryd.prog 48 #[.agg #[.int .i64 z, .slice Am nm1 cm, .slice Bm nm2 dm], .agg #[.int .i64 k1, .string s1, .slice A1 p1 q1, .slice B1 r1 u1], .slice De me ee] W fun e w' => e = .returned (.bool b2) ∧ Below w.heap.size w w') (hN : ∀ a' w', Frm 168 [(6, .bool (b1 && b2))] a' → Below w.heap.size w w' → K a' w') : ∀ ac, Frm 168 [(3, .pointer (some ⟨wo.heap.size, 0, none⟩)), (4, .pointer (some ⟨(wo.heap.size + 1), 0, none⟩)), (5, .pointer (some ⟨(wo.heap.size + 1 + 1), 0, none⟩)), (7, .func (Fn.func 82) #[] #[.pointer (some ⟨(wo.heap.size + 1 + 1), 0, none⟩), .pointer (some ⟨wo.heap.size, 0, none⟩)])] ac → Code.wp Tryd.prog c_vl_r20 (Exit.then K (fun _ _ _ => False)) ac w := by
  refine frm_open ?_
  refine frame_vl ?_
  intros
  rename_i hq
  obtain ⟨-, -, e0q, e1q, e2q, e3q, -⟩ := hq
  obtain rfl := sI e0q
  obtain rfl := sI e1q
  obtain rfl := sI e2q
  obtain rfl := sI e3q
  conv => arg 2; whnf
  have a0 := cellv ha 0 rfl
  have a1 := cellv ha 1 rfl
  have a2 := cellv ha 2 rfl
  have a3 := cellv ha 3 rfl
  have al := lt_heap ha
  clear ha
  have m0 := cellv hgm 0 rfl
  have m1 := cellv hgm 1 rfl
  have m2 := cellv hgm 2 rfl
  have ml := lt_heap hgm
  clear hgm
  have g0 := cellv hge 0 rfl
  have gl := lt_heap hge
  clear hge
  cases b1
  · rw [show (false && b2) = false from by cases b2 <;> rfl] at hN
    have HC1 := Lib.hid hc1
    have HC2 := Lib.hid hc2
    have HN := Lib.hid hN
    clear hc1 hc2 hN
    refine wp_region_held_drew (S := fun w' => w'.cell? ⟨wo.heap.size, 0, none⟩ = some (.int .i64 z) ∧ w'.cell? ⟨wo.heap.size, 1, none⟩ = some (.slice Am nm1 cm) ∧ w'.cell? ⟨wo.heap.size, 2, none⟩ = some (.slice Bm nm2 dm) ∧ w'.cell? ⟨wo.heap.size + 1, 3, none⟩ = some (.slice (some ⟨b, o, none⟩) 2 c2) ∧ w'.cell? ⟨wo.heap.size + 1 + 1, 0, none⟩ = some (.slice De me ee) ∧ w'.cell? ⟨b, o, none⟩ = some (.int .i64 k0) ∧ w'.cell? ⟨b, o + 1, none⟩ = some (.string s0) ∧ w'.cell? ⟨b, o + 2, none⟩ = some (.slice A0 p0 q0) ∧ w'.cell? ⟨b, o + 3, none⟩ = some (.slice B0 r0 u0) ∧ w'.cell? ⟨b, o + 4, none⟩ = some (.int .i64 k1) ∧ w'.cell? ⟨b, o + 5, none⟩ = some (.string s1) ∧ w'.cell? ⟨b, o + 6, none⟩ = some (.slice A1 p1 q1) ∧ w'.cell? ⟨b, o + 7, none⟩ = some (.slice B1 r1 u1)) (by kernel_rfl) ?_ (fun hHeld => ?_)
    · (try dsimp only); go_keep
    refine wpAnyH_take (i := 0) (oi := _) (v := ?v0) rfl (by kernel_rfl) (by kernel_rfl) (by kernel_rfl) (fun _ _ _ h => h) (Or.inl ⟨by rfl, ?hy0⟩) (by assumption) ?rest0
    case hy0 => ((intro w hSw; (try dsimp only at hSw); (try simp only [List.getElem_toArray, List.getElem_cons_zero, List.getElem_cons_succ]); go_simp); try with_reducible rfl)
    try simp only [Act.put, List.getElem_toArray, List.getElem_cons_zero, List.getElem_cons_succ, List.setIfInBounds_toArray, List.set_cons_zero, List.set_cons_succ]
    refine wpAnyH_take (i := 1) (oi := _) (v := ?v1) rfl (by kernel_rfl) (by kernel_rfl) (by kernel_rfl) (fun _ _ _ h => h) (Or.inl ⟨by rfl, ?hy1⟩) (by assumption) ?rest1
    case hy1 => ((intro w hSw; (try dsimp only at hSw); (try simp only [List.getElem_toArray, List.getElem_cons_zero, List.getElem_cons_succ]); go_simp); try with_reducible rfl)
    try simp only [Act.put, List.getElem_toArray, List.getElem_cons_zero, List.getElem_cons_succ, List.setIfInBounds_toArray, List.set_cons_zero, List.set_cons_succ]
    refine wpAnyH_take (i := 2) (oi := _) (v := ?v2) rfl (by kernel_rfl) (by kernel_rfl) (by kernel_rfl) (fun _ _ _ h => h) (Or.inl ⟨by rfl, ?hy2⟩) (by assumption) ?rest2
    case hy2 => ((intro w hSw; (try dsimp only at hSw); (try simp only [List.getElem_toArray, List.getElem_cons_zero, List.getElem_cons_succ]); go_simp); try with_reducible rfl)
    try simp only [Act.put, List.getElem_toArray, List.getElem_cons_zero, List.getElem_cons_succ, List.setIfInBounds_toArray, List.set_cons_zero, List.set_cons_succ]
    refine wpAnyH_take (i := 3) (oi := _) (v := ?v3) rfl (by kernel_rfl) (by kernel_rfl) (by kernel_rfl) (fun _ _ _ h => h) (Or.inl ⟨by rfl, ?hy3⟩) (by assumption) ?rest3
    case hy3 => ((intro w hSw; (try dsimp only at hSw); (try simp only [List.getElem_toArray, List.getElem_cons_zero, List.getElem_cons_succ]); go_simp); try with_reducible rfl)
    try simp only [Act.put, List.getElem_toArray, List.getElem_cons_zero, List.getElem_cons_succ, List.setIfInBounds_toArray, List.set_cons_zero, List.set_cons_succ]
    refine wpAnyH_take (i := 4) (oi := _) (v := ?v4) rfl (by kernel_rfl) (by kernel_rfl) (by kernel_rfl) (fun _ _ _ h => h) (Or.inl ⟨by rfl, ?hy4⟩) (by assumption) ?rest4
    case hy4 => ((intro w hSw; (try dsimp only at hSw); (try simp only [List.getElem_toArray, List.getElem_cons_zero, List.getElem_cons_succ]); go_simp); try with_reducible rfl)
    try simp only [Act.put, List.getElem_toArray, List.getElem_cons_zero, List.getElem_cons_succ, List.setIfInBounds_toArray, List.set_cons_zero, List.set_cons_succ]
    refine wpAnyH_take (i := 5) (oi := _) (v := ?v5) rfl (by kernel_rfl) (by kernel_rfl) (by kernel_rfl) (fun _ _ _ h => h) (Or.inl ⟨by rfl, ?hy5⟩) (by assumption) ?rest5
    case hy5 => ((intro w hSw; (try dsimp only at hSw); (try simp only [List.getElem_toArray, List.getElem_cons_zero, List.getElem_cons_succ]); go_simp); try with_reducible rfl)
    try simp only [Act.put, List.getElem_toArray, List.getElem_cons_zero, List.getElem_cons_succ, List.setIfInBounds_toArray, List.set_cons_zero, List.set_cons_succ]
    refine wpAnyH_ready (rs := [6]) (by kernel_rfl) (by simp) ?_
    refine AllReadyH.cons (o := _) rfl ?_ AllReadyH.nil
    intro K hK
    try simp only [List.getElem_toArray, List.getElem_cons_zero, List.getElem_cons_succ]
    go_simp
    (with_reducible refine (HC1.out _ ?hbel).mono ?_); (case hbel => first | exact Below.refl _ _ | exact (Below.refl _ _).drew | exact HB1.out | exact HB1.out.drew); rintro e w4 ⟨rfl, hw4⟩; have kc5 : ∀ k q, k < w.heap.size → w4.cell? ⟨k, q, none⟩ = _ := (fun k q h => hw4.cell (p := ⟨k, q, none⟩) h); have HB1 := Lib.hid hw4; clear hw4
    go_wp2_with fail
    refine hK.out _ _ ?_ (fun hHeld2 => ?_)
    · (try dsimp only); ((first | (go_keep; done) | (go_split_ands; (repeat' apply And.intro) <;> (refine (kc5 _ _ (by omega)).trans ?_; assumption))))
    clear hK K hHeld
    (try simp only [Act.put, List.setIfInBounds_toArray, List.set_cons_zero, List.set_cons_succ])
    refine wpAnyH_take (i := 7) (oi := _) (v := ?v7) rfl (by kernel_rfl) (by kernel_rfl) (by kernel_rfl) (fun _ _ _ h => h) (Or.inl ⟨by rfl, ?hy7⟩) (by assumption) ?rest7
    case hy7 => ((intro w hSw; (try dsimp only at hSw); (try simp only [List.getElem_toArray, List.getElem_cons_zero, List.getElem_cons_succ]); go_simp); try with_reducible rfl)
    try simp only [Act.put, List.getElem_toArray, List.getElem_cons_zero, List.getElem_cons_succ, List.setIfInBounds_toArray, List.set_cons_zero, List.set_cons_succ]
    refine wpAnyH_take (i := 8) (oi := _) (v := undef) rfl (by kernel_rfl) (by kernel_rfl) (by kernel_rfl) (fun _ _ _ h => h) (Or.inr ⟨by rfl, rfl⟩) (by assumption) ?_
    try simp only [Act.put, List.getElem_toArray, List.getElem_cons_zero, List.getElem_cons_succ, List.setIfInBounds_toArray, List.set_cons_zero, List.set_cons_succ]
    refine wpAnyH_take (i := 9) (oi := _) (v := undef) rfl (by kernel_rfl) (by kernel_rfl) (by kernel_rfl) (fun _ _ _ h => h) (Or.inr ⟨by rfl, rfl⟩) (by assumption) ?_
    try simp only [Act.put, List.getElem_toArray, List.getElem_cons_zero, List.getElem_cons_succ, List.setIfInBounds_toArray, List.set_cons_zero, List.set_cons_succ]
    refine wpAnyH_take (i := 10) (oi := _) (v := undef) rfl (by kernel_rfl) (by kernel_rfl) (by kernel_rfl) (fun _ _ _ h => h) (Or.inr ⟨by rfl, rfl⟩) (by assumption) ?_
    try simp only [Act.put, List.getElem_toArray, List.getElem_cons_zero, List.getElem_cons_succ, List.setIfInBounds_toArray, List.set_cons_zero, List.set_cons_succ]
    refine wpAnyH_take (i := 11) (oi := _) (v := undef) rfl (by kernel_rfl) (by kernel_rfl) (by kernel_rfl) (fun _ _ _ h => h) (Or.inr ⟨by rfl, rfl⟩) (by assumption) ?_
    try simp only [Act.put, List.getElem_toArray, List.getElem_cons_zero, List.getElem_cons_succ, List.setIfInBounds_toArray, List.set_cons_zero, List.set_cons_succ]
    refine wpAnyH_take (i := 12) (oi := _) (v := undef) rfl (by kernel_rfl) (by kernel_rfl) (by kernel_rfl) (fun _ _ _ h => h) (Or.inr ⟨by rfl, rfl⟩) (by assumption) ?_
    try simp only [Act.put, List.getElem_toArray, List.getElem_cons_zero, List.getElem_cons_succ, List.setIfInBounds_toArray, List.set_cons_zero, List.set_cons_succ]
    refine wpAnyH_take (i := 13) (oi := _) (v := undef) rfl (by kernel_rfl) (by kernel_rfl) (by kernel_rfl) (fun _ _ _ h => h) (Or.inr ⟨by rfl, rfl⟩) (by assumption) ?_
    try simp only [Act.put, List.getElem_toArray, List.getElem_cons_zero, List.getElem_cons_succ, List.setIfInBounds_toArray, List.set_cons_zero, List.set_cons_succ]
    refine wpAnyH_take (i := 14) (oi := _) (v := undef) rfl (by kernel_rfl) (by kernel_rfl) (by kernel_rfl) (fun _ _ _ h => h) (Or.inr ⟨by rfl, rfl⟩) (by assumption) ?_
    try simp only [Act.put, List.getElem_toArray, List.getElem_cons_zero, List.getElem_cons_succ, List.setIfInBounds_toArray, List.set_cons_zero, List.set_cons_succ]
    refine wpAnyH_take (i := 15) (oi := _) (v := ?v15) rfl (by kernel_rfl) (by kernel_rfl) (by kernel_rfl) (fun _ _ _ h => h) (Or.inl ⟨by rfl, ?hy15⟩) (by assumption) ?rest15
    case hy15 => ((intro w hSw; (try dsimp only at hSw); (try simp only [List.getElem_toArray, List.getElem_cons_zero, List.getElem_cons_succ]); go_simp); try with_reducible rfl)
    try simp only [Act.put, List.getElem_toArray, List.getElem_cons_zero, List.getElem_cons_succ, List.setIfInBounds_toArray, List.set_cons_zero, List.set_cons_succ]
    refine wpAnyH_take (i := 16) (oi := _) (v := ?v16) rfl (by kernel_rfl) (by kernel_rfl) (by kernel_rfl) (fun _ _ _ h => h) (Or.inl ⟨by rfl, ?hy16⟩) (by assumption) ?rest16
    case hy16 => ((intro w hSw; (try dsimp only at hSw); (try simp only [List.getElem_toArray, List.getElem_cons_zero, List.getElem_cons_succ]); go_simp); try with_reducible rfl)
    try simp only [Act.put, List.getElem_toArray, List.getElem_cons_zero, List.getElem_cons_succ, List.setIfInBounds_toArray, List.set_cons_zero, List.set_cons_succ]
    refine wpAnyH_done (by kernel_rfl) ?_ _
    all_goals go_wp2_with fail
    all_goals exact HN.out _ _ (id ⟨rfl, rfl, rfl, trivial⟩) HB1.out
  · rw [show (true && b2) = b2 from by cases b2 <;> rfl] at hN
    have HC1 := Lib.hid hc1
    have HC2 := Lib.hid hc2
    have HN := Lib.hid hN
    clear hc1 hc2 hN
    go_region_held3 (fun w' => w'.cell? ⟨wo.heap.size, 0, none⟩ = some (.int .i64 z) ∧ w'.cell? ⟨wo.heap.size, 1, none⟩ = some (.slice Am nm1 cm) ∧ w'.cell? ⟨wo.heap.size, 2, none⟩ = some (.slice Bm nm2 dm) ∧ w'.cell? ⟨wo.heap.size + 1, 3, none⟩ = some (.slice (some ⟨b, o, none⟩) 2 c2) ∧ w'.cell? ⟨wo.heap.size + 1 + 1, 0, none⟩ = some (.slice De me ee) ∧ w'.cell? ⟨b, o, none⟩ = some (.int .i64 k0) ∧ w'.cell? ⟨b, o + 1, none⟩ = some (.string s0) ∧ w'.cell? ⟨b, o + 2, none⟩ = some (.slice A0 p0 q0) ∧ w'.cell? ⟨b, o + 3, none⟩ = some (.slice B0 r0 u0) ∧ w'.cell? ⟨b, o + 4, none⟩ = some (.int .i64 k1) ∧ w'.cell? ⟨b, o + 5, none⟩ = some (.string s1) ∧ w'.cell? ⟨b, o + 6, none⟩ = some (.slice A1 p1 q1) ∧ w'.cell? ⟨b, o + 7, none⟩ = some (.slice B1 r1 u1))
      ((first | (go_keep; done) | (go_split_ands; (repeat' apply And.intro) <;> (refine (kc5 _ _ (by omega)).trans ?_; assumption))))
      (first
        | ((with_reducible refine (HC1.out _ ?hbel).mono ?_); (case hbel => first | exact Below.refl _ _ | exact (Below.refl _ _).drew | exact HB1.out | exact HB1.out.drew); rintro e w4 ⟨rfl, hw4⟩; have kc5 : ∀ k q, k < w.heap.size → w4.cell? ⟨k, q, none⟩ = _ := (fun k q h => hw4.cell (p := ⟨k, q, none⟩) h); have HB1 := Lib.hid hw4; clear hw4)
        | ((with_reducible refine (HC2.out _ ?hbel).mono ?_); (case hbel => first | exact Below.refl _ _ | exact (Below.refl _ _).drew | exact HB1.out | exact HB1.out.drew); rintro e w4 ⟨rfl, hw4⟩; have kc5 : ∀ k q, k < w.heap.size → w4.cell? ⟨k, q, none⟩ = _ := (fun k q h => hw4.cell (p := ⟨k, q, none⟩) h); have HB1 := Lib.hid hw4; clear hw4)
        | fail)
    all_goals go_wp2_with fail
    all_goals exact HN.out _ _ (id ⟨rfl, rfl, rfl, trivial⟩) HB1.out
noncomputable def c_vl_r22 : Code := sub [1, 1, 0, 1, 0, 1, 1, 1, 1, 1, 1, 1, 1, 1, 1, 1, 0, 0] (Tryd.f48.body.getD .skip)
set_option maxRecDepth 1000000 in
set_option maxHeartbeats 16000000 in
theorem vl_r22_wp {K : Act → World → Prop} {b1 b2 : Bool} {b o : Nat} {k0 : Int} {s0 : ByteArray} {A0 B0 : Option Addr} {p0 q0 r0 u0 : Nat} {k1 : Int} {s1 : ByteArray} {A1 B1 : Option Addr} {p1 q1 r1 u1 : Nat} {De : Option Addr} {me ee : Nat} {z : Int} {Am Bm : Option Addr} {nm1 cm nm2 dm : Nat} {wo w : World} {kd : Int} {nm : ByteArray} {A : Option Addr} {n1 c1 c2 : Nat} (hgm : w.heap[wo.heap.size]? = some (.cells #[.int .i64 z, .slice Am nm1 cm, .slice Bm nm2 dm] 25 (0, 0))) (ha : w.heap[wo.heap.size + 1]? = some (.cells #[.int .i64 kd, .string nm, .slice A n1 c1, .slice (some ⟨b, o, none⟩) 2 c2] 29 (0, 0))) (hge : w.heap[wo.heap.size + 1 + 1]? = some (.cells #[.slice De me ee] 71 (0, 0))) (e0_0 : w.cell? ⟨b, o, none⟩ = some (.int .i64 k0)) (e0_1 : w.cell? ⟨b, o + 1, none⟩ = some (.string s0)) (e0_2 : w.cell? ⟨b, o + 2, none⟩ = some (.slice A0 p0 q0)) (e0_3 : w.cell? ⟨b, o + 3, none⟩ = some (.slice B0 r0 u0)) (e1_0 : w.cell? ⟨b, o + 4, none⟩ = some (.int .i64 k1)) (e1_1 : w.cell? ⟨b, o + 5, none⟩ = some (.string s1)) (e1_2 : w.cell? ⟨b, o + 6, none⟩ = some (.slice A1 p1 q1)) (e1_3 : w.cell? ⟨b, o + 7, none⟩ = some (.slice B1 r1 u1)) (hbl : b < w.heap.size) (hc1 : ∀ W : World, Below w.heap.size w W → Calls Tryd.prog 48 #[.agg #[.int .i64 z, .slice Am nm1 cm, .slice Bm nm2 dm], .agg #[.int .i64 k0, .string s0, .slice A0 p0 q0, .slice B0 r0 u0], .slice De me ee] W fun e w' => e = .returned (.bool b1) ∧ Below w.heap.size w w') (hc2 : ∀ W : World, Below w.heap.size w W → Calls Tryd.prog 48 #[.agg #[.int .i64 z, .slice Am nm1 cm, .slice Bm nm2 dm], .agg #[.int .i64 k1, .string s1, .slice A1 p1 q1, .slice B1 r1 u1], .slice De me ee] W fun e w' => e = .returned (.bool b2) ∧ Below w.heap.size w w') (hN : ∀ a' w', Frm 168 [(6, .bool (b1 || b2))] a' → Below w.heap.size w w' → K a' w') : ∀ ac, Frm 168 [(3, .pointer (some ⟨wo.heap.size, 0, none⟩)), (4, .pointer (some ⟨(wo.heap.size + 1), 0, none⟩)), (5, .pointer (some ⟨(wo.heap.size + 1 + 1), 0, none⟩)), (7, .func (Fn.func 82) #[] #[.pointer (some ⟨(wo.heap.size + 1 + 1), 0, none⟩), .pointer (some ⟨wo.heap.size, 0, none⟩)])] ac → Code.wp Tryd.prog c_vl_r22 (Exit.then K (fun _ _ _ => False)) ac w := by
  refine frm_open ?_
  refine frame_vl ?_
  intros
  rename_i hq
  obtain ⟨-, -, e0q, e1q, e2q, e3q, -⟩ := hq
  obtain rfl := sI e0q
  obtain rfl := sI e1q
  obtain rfl := sI e2q
  obtain rfl := sI e3q
  conv => arg 2; whnf
  have a0 := cellv ha 0 rfl
  have a1 := cellv ha 1 rfl
  have a2 := cellv ha 2 rfl
  have a3 := cellv ha 3 rfl
  have al := lt_heap ha
  clear ha
  have m0 := cellv hgm 0 rfl
  have m1 := cellv hgm 1 rfl
  have m2 := cellv hgm 2 rfl
  have ml := lt_heap hgm
  clear hgm
  have g0 := cellv hge 0 rfl
  have gl := lt_heap hge
  clear hge
  cases b1
  · rw [show (false || b2) = b2 from by cases b2 <;> rfl] at hN
    have HC1 := Lib.hid hc1
    have HC2 := Lib.hid hc2
    have HN := Lib.hid hN
    clear hc1 hc2 hN
    go_region_held3 (fun w' => w'.cell? ⟨wo.heap.size, 0, none⟩ = some (.int .i64 z) ∧ w'.cell? ⟨wo.heap.size, 1, none⟩ = some (.slice Am nm1 cm) ∧ w'.cell? ⟨wo.heap.size, 2, none⟩ = some (.slice Bm nm2 dm) ∧ w'.cell? ⟨wo.heap.size + 1, 3, none⟩ = some (.slice (some ⟨b, o, none⟩) 2 c2) ∧ w'.cell? ⟨wo.heap.size + 1 + 1, 0, none⟩ = some (.slice De me ee) ∧ w'.cell? ⟨b, o, none⟩ = some (.int .i64 k0) ∧ w'.cell? ⟨b, o + 1, none⟩ = some (.string s0) ∧ w'.cell? ⟨b, o + 2, none⟩ = some (.slice A0 p0 q0) ∧ w'.cell? ⟨b, o + 3, none⟩ = some (.slice B0 r0 u0) ∧ w'.cell? ⟨b, o + 4, none⟩ = some (.int .i64 k1) ∧ w'.cell? ⟨b, o + 5, none⟩ = some (.string s1) ∧ w'.cell? ⟨b, o + 6, none⟩ = some (.slice A1 p1 q1) ∧ w'.cell? ⟨b, o + 7, none⟩ = some (.slice B1 r1 u1))
      ((first | (go_keep; done) | (go_split_ands; (repeat' apply And.intro) <;> (refine (kc5 _ _ (by omega)).trans ?_; assumption))))
      (first
        | ((with_reducible refine (HC1.out _ ?hbel).mono ?_); (case hbel => first | exact Below.refl _ _ | exact (Below.refl _ _).drew | exact HB1.out | exact HB1.out.drew); rintro e w4 ⟨rfl, hw4⟩; have kc5 : ∀ k q, k < w.heap.size → w4.cell? ⟨k, q, none⟩ = _ := (fun k q h => hw4.cell (p := ⟨k, q, none⟩) h); have HB1 := Lib.hid hw4; clear hw4)
        | ((with_reducible refine (HC2.out _ ?hbel).mono ?_); (case hbel => first | exact Below.refl _ _ | exact (Below.refl _ _).drew | exact HB1.out | exact HB1.out.drew); rintro e w4 ⟨rfl, hw4⟩; have kc5 : ∀ k q, k < w.heap.size → w4.cell? ⟨k, q, none⟩ = _ := (fun k q h => hw4.cell (p := ⟨k, q, none⟩) h); have HB1 := Lib.hid hw4; clear hw4)
        | fail)
    all_goals go_wp2_with fail
    all_goals exact HN.out _ _ (id ⟨rfl, rfl, rfl, trivial⟩) HB1.out
  · rw [show (true || b2) = true from by cases b2 <;> rfl] at hN
    have HC1 := Lib.hid hc1
    have HC2 := Lib.hid hc2
    have HN := Lib.hid hN
    clear hc1 hc2 hN
    refine wp_region_held_drew (S := fun w' => w'.cell? ⟨wo.heap.size, 0, none⟩ = some (.int .i64 z) ∧ w'.cell? ⟨wo.heap.size, 1, none⟩ = some (.slice Am nm1 cm) ∧ w'.cell? ⟨wo.heap.size, 2, none⟩ = some (.slice Bm nm2 dm) ∧ w'.cell? ⟨wo.heap.size + 1, 3, none⟩ = some (.slice (some ⟨b, o, none⟩) 2 c2) ∧ w'.cell? ⟨wo.heap.size + 1 + 1, 0, none⟩ = some (.slice De me ee) ∧ w'.cell? ⟨b, o, none⟩ = some (.int .i64 k0) ∧ w'.cell? ⟨b, o + 1, none⟩ = some (.string s0) ∧ w'.cell? ⟨b, o + 2, none⟩ = some (.slice A0 p0 q0) ∧ w'.cell? ⟨b, o + 3, none⟩ = some (.slice B0 r0 u0) ∧ w'.cell? ⟨b, o + 4, none⟩ = some (.int .i64 k1) ∧ w'.cell? ⟨b, o + 5, none⟩ = some (.string s1) ∧ w'.cell? ⟨b, o + 6, none⟩ = some (.slice A1 p1 q1) ∧ w'.cell? ⟨b, o + 7, none⟩ = some (.slice B1 r1 u1)) (by kernel_rfl) ?_ (fun hHeld => ?_)
    · (try dsimp only); go_keep
    refine wpAnyH_take (i := 0) (oi := _) (v := ?v0) rfl (by kernel_rfl) (by kernel_rfl) (by kernel_rfl) (fun _ _ _ h => h) (Or.inl ⟨by rfl, ?hy0⟩) (by assumption) ?rest0
    case hy0 => ((intro w hSw; (try dsimp only at hSw); (try simp only [List.getElem_toArray, List.getElem_cons_zero, List.getElem_cons_succ]); go_simp); try with_reducible rfl)
    try simp only [Act.put, List.getElem_toArray, List.getElem_cons_zero, List.getElem_cons_succ, List.setIfInBounds_toArray, List.set_cons_zero, List.set_cons_succ]
    refine wpAnyH_take (i := 1) (oi := _) (v := ?v1) rfl (by kernel_rfl) (by kernel_rfl) (by kernel_rfl) (fun _ _ _ h => h) (Or.inl ⟨by rfl, ?hy1⟩) (by assumption) ?rest1
    case hy1 => ((intro w hSw; (try dsimp only at hSw); (try simp only [List.getElem_toArray, List.getElem_cons_zero, List.getElem_cons_succ]); go_simp); try with_reducible rfl)
    try simp only [Act.put, List.getElem_toArray, List.getElem_cons_zero, List.getElem_cons_succ, List.setIfInBounds_toArray, List.set_cons_zero, List.set_cons_succ]
    refine wpAnyH_take (i := 2) (oi := _) (v := ?v2) rfl (by kernel_rfl) (by kernel_rfl) (by kernel_rfl) (fun _ _ _ h => h) (Or.inl ⟨by rfl, ?hy2⟩) (by assumption) ?rest2
    case hy2 => ((intro w hSw; (try dsimp only at hSw); (try simp only [List.getElem_toArray, List.getElem_cons_zero, List.getElem_cons_succ]); go_simp); try with_reducible rfl)
    try simp only [Act.put, List.getElem_toArray, List.getElem_cons_zero, List.getElem_cons_succ, List.setIfInBounds_toArray, List.set_cons_zero, List.set_cons_succ]
    refine wpAnyH_take (i := 3) (oi := _) (v := ?v3) rfl (by kernel_rfl) (by kernel_rfl) (by kernel_rfl) (fun _ _ _ h => h) (Or.inl ⟨by rfl, ?hy3⟩) (by assumption) ?rest3
    case hy3 => ((intro w hSw; (try dsimp only at hSw); (try simp only [List.getElem_toArray, List.getElem_cons_zero, List.getElem_cons_succ]); go_simp); try with_reducible rfl)
    try simp only [Act.put, List.getElem_toArray, List.getElem_cons_zero, List.getElem_cons_succ, List.setIfInBounds_toArray, List.set_cons_zero, List.set_cons_succ]
    refine wpAnyH_take (i := 4) (oi := _) (v := ?v4) rfl (by kernel_rfl) (by kernel_rfl) (by kernel_rfl) (fun _ _ _ h => h) (Or.inl ⟨by rfl, ?hy4⟩) (by assumption) ?rest4
    case hy4 => ((intro w hSw; (try dsimp only at hSw); (try simp only [List.getElem_toArray, List.getElem_cons_zero, List.getElem_cons_succ]); go_simp); try with_reducible rfl)
    try simp only [Act.put, List.getElem_toArray, List.getElem_cons_zero, List.getElem_cons_succ, List.setIfInBounds_toArray, List.set_cons_zero, List.set_cons_succ]
    refine wpAnyH_take (i := 5) (oi := _) (v := ?v5) rfl (by kernel_rfl) (by kernel_rfl) (by kernel_rfl) (fun _ _ _ h => h) (Or.inl ⟨by rfl, ?hy5⟩) (by assumption) ?rest5
    case hy5 => ((intro w hSw; (try dsimp only at hSw); (try simp only [List.getElem_toArray, List.getElem_cons_zero, List.getElem_cons_succ]); go_simp); try with_reducible rfl)
    try simp only [Act.put, List.getElem_toArray, List.getElem_cons_zero, List.getElem_cons_succ, List.setIfInBounds_toArray, List.set_cons_zero, List.set_cons_succ]
    refine wpAnyH_ready (rs := [6]) (by kernel_rfl) (by simp) ?_
    refine AllReadyH.cons (o := _) rfl ?_ AllReadyH.nil
    intro K hK
    try simp only [List.getElem_toArray, List.getElem_cons_zero, List.getElem_cons_succ]
    go_simp
    (with_reducible refine (HC1.out _ ?hbel).mono ?_); (case hbel => first | exact Below.refl _ _ | exact (Below.refl _ _).drew | exact HB1.out | exact HB1.out.drew); rintro e w4 ⟨rfl, hw4⟩; have kc5 : ∀ k q, k < w.heap.size → w4.cell? ⟨k, q, none⟩ = _ := (fun k q h => hw4.cell (p := ⟨k, q, none⟩) h); have HB1 := Lib.hid hw4; clear hw4
    go_wp2_with fail
    refine hK.out _ _ ?_ (fun hHeld2 => ?_)
    · (try dsimp only); ((first | (go_keep; done) | (go_split_ands; (repeat' apply And.intro) <;> (refine (kc5 _ _ (by omega)).trans ?_; assumption))))
    clear hK K hHeld
    (try simp only [Act.put, List.setIfInBounds_toArray, List.set_cons_zero, List.set_cons_succ])
    refine wpAnyH_take (i := 7) (oi := _) (v := ?v7) rfl (by kernel_rfl) (by kernel_rfl) (by kernel_rfl) (fun _ _ _ h => h) (Or.inl ⟨by rfl, ?hy7⟩) (by assumption) ?rest7
    case hy7 => ((intro w hSw; (try dsimp only at hSw); (try simp only [List.getElem_toArray, List.getElem_cons_zero, List.getElem_cons_succ]); go_simp); try with_reducible rfl)
    try simp only [Act.put, List.getElem_toArray, List.getElem_cons_zero, List.getElem_cons_succ, List.setIfInBounds_toArray, List.set_cons_zero, List.set_cons_succ]
    refine wpAnyH_take (i := 8) (oi := _) (v := undef) rfl (by kernel_rfl) (by kernel_rfl) (by kernel_rfl) (fun _ _ _ h => h) (Or.inr ⟨by rfl, rfl⟩) (by assumption) ?_
    try simp only [Act.put, List.getElem_toArray, List.getElem_cons_zero, List.getElem_cons_succ, List.setIfInBounds_toArray, List.set_cons_zero, List.set_cons_succ]
    refine wpAnyH_take (i := 9) (oi := _) (v := undef) rfl (by kernel_rfl) (by kernel_rfl) (by kernel_rfl) (fun _ _ _ h => h) (Or.inr ⟨by rfl, rfl⟩) (by assumption) ?_
    try simp only [Act.put, List.getElem_toArray, List.getElem_cons_zero, List.getElem_cons_succ, List.setIfInBounds_toArray, List.set_cons_zero, List.set_cons_succ]
    refine wpAnyH_take (i := 10) (oi := _) (v := undef) rfl (by kernel_rfl) (by kernel_rfl) (by kernel_rfl) (fun _ _ _ h => h) (Or.inr ⟨by rfl, rfl⟩) (by assumption) ?_
    try simp only [Act.put, List.getElem_toArray, List.getElem_cons_zero, List.getElem_cons_succ, List.setIfInBounds_toArray, List.set_cons_zero, List.set_cons_succ]
    refine wpAnyH_take (i := 11) (oi := _) (v := undef) rfl (by kernel_rfl) (by kernel_rfl) (by kernel_rfl) (fun _ _ _ h => h) (Or.inr ⟨by rfl, rfl⟩) (by assumption) ?_
    try simp only [Act.put, List.getElem_toArray, List.getElem_cons_zero, List.getElem_cons_succ, List.setIfInBounds_toArray, List.set_cons_zero, List.set_cons_succ]
    refine wpAnyH_take (i := 12) (oi := _) (v := undef) rfl (by kernel_rfl) (by kernel_rfl) (by kernel_rfl) (fun _ _ _ h => h) (Or.inr ⟨by rfl, rfl⟩) (by assumption) ?_
    try simp only [Act.put, List.getElem_toArray, List.getElem_cons_zero, List.getElem_cons_succ, List.setIfInBounds_toArray, List.set_cons_zero, List.set_cons_succ]
    refine wpAnyH_take (i := 13) (oi := _) (v := undef) rfl (by kernel_rfl) (by kernel_rfl) (by kernel_rfl) (fun _ _ _ h => h) (Or.inr ⟨by rfl, rfl⟩) (by assumption) ?_
    try simp only [Act.put, List.getElem_toArray, List.getElem_cons_zero, List.getElem_cons_succ, List.setIfInBounds_toArray, List.set_cons_zero, List.set_cons_succ]
    refine wpAnyH_take (i := 14) (oi := _) (v := undef) rfl (by kernel_rfl) (by kernel_rfl) (by kernel_rfl) (fun _ _ _ h => h) (Or.inr ⟨by rfl, rfl⟩) (by assumption) ?_
    try simp only [Act.put, List.getElem_toArray, List.getElem_cons_zero, List.getElem_cons_succ, List.setIfInBounds_toArray, List.set_cons_zero, List.set_cons_succ]
    refine wpAnyH_take (i := 15) (oi := _) (v := ?v15) rfl (by kernel_rfl) (by kernel_rfl) (by kernel_rfl) (fun _ _ _ h => h) (Or.inl ⟨by rfl, ?hy15⟩) (by assumption) ?rest15
    case hy15 => ((intro w hSw; (try dsimp only at hSw); (try simp only [List.getElem_toArray, List.getElem_cons_zero, List.getElem_cons_succ]); go_simp); try with_reducible rfl)
    try simp only [Act.put, List.getElem_toArray, List.getElem_cons_zero, List.getElem_cons_succ, List.setIfInBounds_toArray, List.set_cons_zero, List.set_cons_succ]
    refine wpAnyH_take (i := 16) (oi := _) (v := ?v16) rfl (by kernel_rfl) (by kernel_rfl) (by kernel_rfl) (fun _ _ _ h => h) (Or.inl ⟨by rfl, ?hy16⟩) (by assumption) ?rest16
    case hy16 => ((intro w hSw; (try dsimp only at hSw); (try simp only [List.getElem_toArray, List.getElem_cons_zero, List.getElem_cons_succ]); go_simp); try with_reducible rfl)
    try simp only [Act.put, List.getElem_toArray, List.getElem_cons_zero, List.getElem_cons_succ, List.setIfInBounds_toArray, List.set_cons_zero, List.set_cons_succ]
    refine wpAnyH_done (by kernel_rfl) ?_ _
    all_goals go_wp2_with fail
    all_goals exact HN.out _ _ (id ⟨rfl, rfl, rfl, trivial⟩) HB1.out
noncomputable def c_vl_r24 : Code := sub [1, 1, 0, 1, 0, 1, 1, 1, 1, 1, 1, 1, 1, 1, 1, 1, 1, 1, 0, 0] (Tryd.f48.body.getD .skip)
set_option maxRecDepth 1000000 in
set_option maxHeartbeats 16000000 in
theorem vl_r24_wp {K : Act → World → Prop} {b1 b2 : Bool} {b o : Nat} {k0 : Int} {s0 : ByteArray} {A0 B0 : Option Addr} {p0 q0 r0 u0 : Nat} {k1 : Int} {s1 : ByteArray} {A1 B1 : Option Addr} {p1 q1 r1 u1 : Nat} {De : Option Addr} {me ee : Nat} {z : Int} {Am Bm : Option Addr} {nm1 cm nm2 dm : Nat} {wo w : World} {kd : Int} {nm : ByteArray} {A : Option Addr} {n1 c1 c2 : Nat} (hgm : w.heap[wo.heap.size]? = some (.cells #[.int .i64 z, .slice Am nm1 cm, .slice Bm nm2 dm] 25 (0, 0))) (ha : w.heap[wo.heap.size + 1]? = some (.cells #[.int .i64 kd, .string nm, .slice A n1 c1, .slice (some ⟨b, o, none⟩) 2 c2] 29 (0, 0))) (hge : w.heap[wo.heap.size + 1 + 1]? = some (.cells #[.slice De me ee] 71 (0, 0))) (e0_0 : w.cell? ⟨b, o, none⟩ = some (.int .i64 k0)) (e0_1 : w.cell? ⟨b, o + 1, none⟩ = some (.string s0)) (e0_2 : w.cell? ⟨b, o + 2, none⟩ = some (.slice A0 p0 q0)) (e0_3 : w.cell? ⟨b, o + 3, none⟩ = some (.slice B0 r0 u0)) (e1_0 : w.cell? ⟨b, o + 4, none⟩ = some (.int .i64 k1)) (e1_1 : w.cell? ⟨b, o + 5, none⟩ = some (.string s1)) (e1_2 : w.cell? ⟨b, o + 6, none⟩ = some (.slice A1 p1 q1)) (e1_3 : w.cell? ⟨b, o + 7, none⟩ = some (.slice B1 r1 u1)) (hbl : b < w.heap.size) (hc1 : ∀ W : World, Below w.heap.size w W → Calls Tryd.prog 48 #[.agg #[.int .i64 z, .slice Am nm1 cm, .slice Bm nm2 dm], .agg #[.int .i64 k0, .string s0, .slice A0 p0 q0, .slice B0 r0 u0], .slice De me ee] W fun e w' => e = .returned (.bool b1) ∧ Below w.heap.size w w') (hc2 : ∀ W : World, Below w.heap.size w W → Calls Tryd.prog 48 #[.agg #[.int .i64 z, .slice Am nm1 cm, .slice Bm nm2 dm], .agg #[.int .i64 k1, .string s1, .slice A1 p1 q1, .slice B1 r1 u1], .slice De me ee] W fun e w' => e = .returned (.bool b2) ∧ Below w.heap.size w w') (hN : ∀ a' w', Frm 168 [(6, .bool (!b1 || b2))] a' → Below w.heap.size w w' → K a' w') : ∀ ac, Frm 168 [(3, .pointer (some ⟨wo.heap.size, 0, none⟩)), (4, .pointer (some ⟨(wo.heap.size + 1), 0, none⟩)), (5, .pointer (some ⟨(wo.heap.size + 1 + 1), 0, none⟩)), (7, .func (Fn.func 82) #[] #[.pointer (some ⟨(wo.heap.size + 1 + 1), 0, none⟩), .pointer (some ⟨wo.heap.size, 0, none⟩)])] ac → Code.wp Tryd.prog c_vl_r24 (Exit.then K (fun _ _ _ => False)) ac w := by
  refine frm_open ?_
  refine frame_vl ?_
  intros
  rename_i hq
  obtain ⟨-, -, e0q, e1q, e2q, e3q, -⟩ := hq
  obtain rfl := sI e0q
  obtain rfl := sI e1q
  obtain rfl := sI e2q
  obtain rfl := sI e3q
  conv => arg 2; whnf
  have a0 := cellv ha 0 rfl
  have a1 := cellv ha 1 rfl
  have a2 := cellv ha 2 rfl
  have a3 := cellv ha 3 rfl
  have al := lt_heap ha
  clear ha
  have m0 := cellv hgm 0 rfl
  have m1 := cellv hgm 1 rfl
  have m2 := cellv hgm 2 rfl
  have ml := lt_heap hgm
  clear hgm
  have g0 := cellv hge 0 rfl
  have gl := lt_heap hge
  clear hge
  cases b1
  · rw [show (!false || b2) = true from by cases b2 <;> rfl] at hN
    have HC1 := Lib.hid hc1
    have HC2 := Lib.hid hc2
    have HN := Lib.hid hN
    clear hc1 hc2 hN
    refine wp_region_held_drew (S := fun w' => w'.cell? ⟨wo.heap.size, 0, none⟩ = some (.int .i64 z) ∧ w'.cell? ⟨wo.heap.size, 1, none⟩ = some (.slice Am nm1 cm) ∧ w'.cell? ⟨wo.heap.size, 2, none⟩ = some (.slice Bm nm2 dm) ∧ w'.cell? ⟨wo.heap.size + 1, 3, none⟩ = some (.slice (some ⟨b, o, none⟩) 2 c2) ∧ w'.cell? ⟨wo.heap.size + 1 + 1, 0, none⟩ = some (.slice De me ee) ∧ w'.cell? ⟨b, o, none⟩ = some (.int .i64 k0) ∧ w'.cell? ⟨b, o + 1, none⟩ = some (.string s0) ∧ w'.cell? ⟨b, o + 2, none⟩ = some (.slice A0 p0 q0) ∧ w'.cell? ⟨b, o + 3, none⟩ = some (.slice B0 r0 u0) ∧ w'.cell? ⟨b, o + 4, none⟩ = some (.int .i64 k1) ∧ w'.cell? ⟨b, o + 5, none⟩ = some (.string s1) ∧ w'.cell? ⟨b, o + 6, none⟩ = some (.slice A1 p1 q1) ∧ w'.cell? ⟨b, o + 7, none⟩ = some (.slice B1 r1 u1)) (by kernel_rfl) ?_ (fun hHeld => ?_)
    · (try dsimp only); go_keep
    refine wpAnyH_take (i := 0) (oi := _) (v := ?v0) rfl (by kernel_rfl) (by kernel_rfl) (by kernel_rfl) (fun _ _ _ h => h) (Or.inl ⟨by rfl, ?hy0⟩) (by assumption) ?rest0
    case hy0 => ((intro w hSw; (try dsimp only at hSw); (try simp only [List.getElem_toArray, List.getElem_cons_zero, List.getElem_cons_succ]); go_simp); try with_reducible rfl)
    try simp only [Act.put, List.getElem_toArray, List.getElem_cons_zero, List.getElem_cons_succ, List.setIfInBounds_toArray, List.set_cons_zero, List.set_cons_succ]
    refine wpAnyH_take (i := 1) (oi := _) (v := ?v1) rfl (by kernel_rfl) (by kernel_rfl) (by kernel_rfl) (fun _ _ _ h => h) (Or.inl ⟨by rfl, ?hy1⟩) (by assumption) ?rest1
    case hy1 => ((intro w hSw; (try dsimp only at hSw); (try simp only [List.getElem_toArray, List.getElem_cons_zero, List.getElem_cons_succ]); go_simp); try with_reducible rfl)
    try simp only [Act.put, List.getElem_toArray, List.getElem_cons_zero, List.getElem_cons_succ, List.setIfInBounds_toArray, List.set_cons_zero, List.set_cons_succ]
    refine wpAnyH_take (i := 2) (oi := _) (v := ?v2) rfl (by kernel_rfl) (by kernel_rfl) (by kernel_rfl) (fun _ _ _ h => h) (Or.inl ⟨by rfl, ?hy2⟩) (by assumption) ?rest2
    case hy2 => ((intro w hSw; (try dsimp only at hSw); (try simp only [List.getElem_toArray, List.getElem_cons_zero, List.getElem_cons_succ]); go_simp); try with_reducible rfl)
    try simp only [Act.put, List.getElem_toArray, List.getElem_cons_zero, List.getElem_cons_succ, List.setIfInBounds_toArray, List.set_cons_zero, List.set_cons_succ]
    refine wpAnyH_take (i := 3) (oi := _) (v := ?v3) rfl (by kernel_rfl) (by kernel_rfl) (by kernel_rfl) (fun _ _ _ h => h) (Or.inl ⟨by rfl, ?hy3⟩) (by assumption) ?rest3
    case hy3 => ((intro w hSw; (try dsimp only at hSw); (try simp only [List.getElem_toArray, List.getElem_cons_zero, List.getElem_cons_succ]); go_simp); try with_reducible rfl)
    try simp only [Act.put, List.getElem_toArray, List.getElem_cons_zero, List.getElem_cons_succ, List.setIfInBounds_toArray, List.set_cons_zero, List.set_cons_succ]
    refine wpAnyH_take (i := 4) (oi := _) (v := ?v4) rfl (by kernel_rfl) (by kernel_rfl) (by kernel_rfl) (fun _ _ _ h => h) (Or.inl ⟨by rfl, ?hy4⟩) (by assumption) ?rest4
    case hy4 => ((intro w hSw; (try dsimp only at hSw); (try simp only [List.getElem_toArray, List.getElem_cons_zero, List.getElem_cons_succ]); go_simp); try with_reducible rfl)
    try simp only [Act.put, List.getElem_toArray, List.getElem_cons_zero, List.getElem_cons_succ, List.setIfInBounds_toArray, List.set_cons_zero, List.set_cons_succ]
    refine wpAnyH_take (i := 5) (oi := _) (v := ?v5) rfl (by kernel_rfl) (by kernel_rfl) (by kernel_rfl) (fun _ _ _ h => h) (Or.inl ⟨by rfl, ?hy5⟩) (by assumption) ?rest5
    case hy5 => ((intro w hSw; (try dsimp only at hSw); (try simp only [List.getElem_toArray, List.getElem_cons_zero, List.getElem_cons_succ]); go_simp); try with_reducible rfl)
    try simp only [Act.put, List.getElem_toArray, List.getElem_cons_zero, List.getElem_cons_succ, List.setIfInBounds_toArray, List.set_cons_zero, List.set_cons_succ]
    refine wpAnyH_ready (rs := [6]) (by kernel_rfl) (by simp) ?_
    refine AllReadyH.cons (o := _) rfl ?_ AllReadyH.nil
    intro K hK
    try simp only [List.getElem_toArray, List.getElem_cons_zero, List.getElem_cons_succ]
    go_simp
    (with_reducible refine (HC1.out _ ?hbel).mono ?_); (case hbel => first | exact Below.refl _ _ | exact (Below.refl _ _).drew | exact HB1.out | exact HB1.out.drew); rintro e w4 ⟨rfl, hw4⟩; have kc5 : ∀ k q, k < w.heap.size → w4.cell? ⟨k, q, none⟩ = _ := (fun k q h => hw4.cell (p := ⟨k, q, none⟩) h); have HB1 := Lib.hid hw4; clear hw4
    go_wp2_with fail
    refine hK.out _ _ ?_ (fun hHeld2 => ?_)
    · (try dsimp only); ((first | (go_keep; done) | (go_split_ands; (repeat' apply And.intro) <;> (refine (kc5 _ _ (by omega)).trans ?_; assumption))))
    clear hK K hHeld
    (try simp only [Act.put, List.setIfInBounds_toArray, List.set_cons_zero, List.set_cons_succ])
    refine wpAnyH_take (i := 7) (oi := _) (v := ?v7) rfl (by kernel_rfl) (by kernel_rfl) (by kernel_rfl) (fun _ _ _ h => h) (Or.inl ⟨by rfl, ?hy7⟩) (by assumption) ?rest7
    case hy7 => ((intro w hSw; (try dsimp only at hSw); (try simp only [List.getElem_toArray, List.getElem_cons_zero, List.getElem_cons_succ]); go_simp); try with_reducible rfl)
    try simp only [Act.put, List.getElem_toArray, List.getElem_cons_zero, List.getElem_cons_succ, List.setIfInBounds_toArray, List.set_cons_zero, List.set_cons_succ]
    refine wpAnyH_take (i := 8) (oi := _) (v := ?v8) rfl (by kernel_rfl) (by kernel_rfl) (by kernel_rfl) (fun _ _ _ h => h) (Or.inl ⟨by rfl, ?hy8⟩) (by assumption) ?rest8
    case hy8 => ((intro w hSw; (try dsimp only at hSw); (try simp only [List.getElem_toArray, List.getElem_cons_zero, List.getElem_cons_succ]); go_simp); try with_reducible rfl)
    try simp only [Act.put, List.getElem_toArray, List.getElem_cons_zero, List.getElem_cons_succ, List.setIfInBounds_toArray, List.set_cons_zero, List.set_cons_succ]
    refine wpAnyH_take (i := 9) (oi := _) (v := undef) rfl (by kernel_rfl) (by kernel_rfl) (by kernel_rfl) (fun _ _ _ h => h) (Or.inr ⟨by rfl, rfl⟩) (by assumption) ?_
    try simp only [Act.put, List.getElem_toArray, List.getElem_cons_zero, List.getElem_cons_succ, List.setIfInBounds_toArray, List.set_cons_zero, List.set_cons_succ]
    refine wpAnyH_take (i := 10) (oi := _) (v := undef) rfl (by kernel_rfl) (by kernel_rfl) (by kernel_rfl) (fun _ _ _ h => h) (Or.inr ⟨by rfl, rfl⟩) (by assumption) ?_
    try simp only [Act.put, List.getElem_toArray, List.getElem_cons_zero, List.getElem_cons_succ, List.setIfInBounds_toArray, List.set_cons_zero, List.set_cons_succ]
    refine wpAnyH_take (i := 11) (oi := _) (v := undef) rfl (by kernel_rfl) (by kernel_rfl) (by kernel_rfl) (fun _ _ _ h => h) (Or.inr ⟨by rfl, rfl⟩) (by assumption) ?_
    try simp only [Act.put, List.getElem_toArray, List.getElem_cons_zero, List.getElem_cons_succ, List.setIfInBounds_toArray, List.set_cons_zero, List.set_cons_succ]
    refine wpAnyH_take (i := 12) (oi := _) (v := undef) rfl (by kernel_rfl) (by kernel_rfl) (by kernel_rfl) (fun _ _ _ h => h) (Or.inr ⟨by rfl, rfl⟩) (by assumption) ?_
    try simp only [Act.put, List.getElem_toArray, List.getElem_cons_zero, List.getElem_cons_succ, List.setIfInBounds_toArray, List.set_cons_zero, List.set_cons_succ]
    refine wpAnyH_take (i := 13) (oi := _) (v := undef) rfl (by kernel_rfl) (by kernel_rfl) (by kernel_rfl) (fun _ _ _ h => h) (Or.inr ⟨by rfl, rfl⟩) (by assumption) ?_
    try simp only [Act.put, List.getElem_toArray, List.getElem_cons_zero, List.getElem_cons_succ, List.setIfInBounds_toArray, List.set_cons_zero, List.set_cons_succ]
    refine wpAnyH_take (i := 14) (oi := _) (v := undef) rfl (by kernel_rfl) (by kernel_rfl) (by kernel_rfl) (fun _ _ _ h => h) (Or.inr ⟨by rfl, rfl⟩) (by assumption) ?_
    try simp only [Act.put, List.getElem_toArray, List.getElem_cons_zero, List.getElem_cons_succ, List.setIfInBounds_toArray, List.set_cons_zero, List.set_cons_succ]
    refine wpAnyH_take (i := 15) (oi := _) (v := undef) rfl (by kernel_rfl) (by kernel_rfl) (by kernel_rfl) (fun _ _ _ h => h) (Or.inr ⟨by rfl, rfl⟩) (by assumption) ?_
    try simp only [Act.put, List.getElem_toArray, List.getElem_cons_zero, List.getElem_cons_succ, List.setIfInBounds_toArray, List.set_cons_zero, List.set_cons_succ]
    refine wpAnyH_take (i := 16) (oi := _) (v := ?v16) rfl (by kernel_rfl) (by kernel_rfl) (by kernel_rfl) (fun _ _ _ h => h) (Or.inl ⟨by rfl, ?hy16⟩) (by assumption) ?rest16
    case hy16 => ((intro w hSw; (try dsimp only at hSw); (try simp only [List.getElem_toArray, List.getElem_cons_zero, List.getElem_cons_succ]); go_simp); try with_reducible rfl)
    try simp only [Act.put, List.getElem_toArray, List.getElem_cons_zero, List.getElem_cons_succ, List.setIfInBounds_toArray, List.set_cons_zero, List.set_cons_succ]
    refine wpAnyH_take (i := 17) (oi := _) (v := ?v17) rfl (by kernel_rfl) (by kernel_rfl) (by kernel_rfl) (fun _ _ _ h => h) (Or.inl ⟨by rfl, ?hy17⟩) (by assumption) ?rest17
    case hy17 => ((intro w hSw; (try dsimp only at hSw); (try simp only [List.getElem_toArray, List.getElem_cons_zero, List.getElem_cons_succ]); go_simp); try with_reducible rfl)
    try simp only [Act.put, List.getElem_toArray, List.getElem_cons_zero, List.getElem_cons_succ, List.setIfInBounds_toArray, List.set_cons_zero, List.set_cons_succ]
    refine wpAnyH_done (by kernel_rfl) ?_ _
    all_goals go_wp2_with fail
    all_goals exact HN.out _ _ (id ⟨rfl, rfl, rfl, trivial⟩) HB1.out
  · rw [show (!true || b2) = b2 from by cases b2 <;> rfl] at hN
    have HC1 := Lib.hid hc1
    have HC2 := Lib.hid hc2
    have HN := Lib.hid hN
    clear hc1 hc2 hN
    go_region_held3 (fun w' => w'.cell? ⟨wo.heap.size, 0, none⟩ = some (.int .i64 z) ∧ w'.cell? ⟨wo.heap.size, 1, none⟩ = some (.slice Am nm1 cm) ∧ w'.cell? ⟨wo.heap.size, 2, none⟩ = some (.slice Bm nm2 dm) ∧ w'.cell? ⟨wo.heap.size + 1, 3, none⟩ = some (.slice (some ⟨b, o, none⟩) 2 c2) ∧ w'.cell? ⟨wo.heap.size + 1 + 1, 0, none⟩ = some (.slice De me ee) ∧ w'.cell? ⟨b, o, none⟩ = some (.int .i64 k0) ∧ w'.cell? ⟨b, o + 1, none⟩ = some (.string s0) ∧ w'.cell? ⟨b, o + 2, none⟩ = some (.slice A0 p0 q0) ∧ w'.cell? ⟨b, o + 3, none⟩ = some (.slice B0 r0 u0) ∧ w'.cell? ⟨b, o + 4, none⟩ = some (.int .i64 k1) ∧ w'.cell? ⟨b, o + 5, none⟩ = some (.string s1) ∧ w'.cell? ⟨b, o + 6, none⟩ = some (.slice A1 p1 q1) ∧ w'.cell? ⟨b, o + 7, none⟩ = some (.slice B1 r1 u1))
      ((first | (go_keep; done) | (go_split_ands; (repeat' apply And.intro) <;> (refine (kc5 _ _ (by omega)).trans ?_; assumption))))
      (first
        | ((with_reducible refine (HC1.out _ ?hbel).mono ?_); (case hbel => first | exact Below.refl _ _ | exact (Below.refl _ _).drew | exact HB1.out | exact HB1.out.drew); rintro e w4 ⟨rfl, hw4⟩; have kc5 : ∀ k q, k < w.heap.size → w4.cell? ⟨k, q, none⟩ = _ := (fun k q h => hw4.cell (p := ⟨k, q, none⟩) h); have HB1 := Lib.hid hw4; clear hw4)
        | ((with_reducible refine (HC2.out _ ?hbel).mono ?_); (case hbel => first | exact Below.refl _ _ | exact (Below.refl _ _).drew | exact HB1.out | exact HB1.out.drew); rintro e w4 ⟨rfl, hw4⟩; have kc5 : ∀ k q, k < w.heap.size → w4.cell? ⟨k, q, none⟩ = _ := (fun k q h => hw4.cell (p := ⟨k, q, none⟩) h); have HB1 := Lib.hid hw4; clear hw4)
        | fail)
    all_goals go_wp2_with fail
    all_goals exact HN.out _ _ (id ⟨rfl, rfl, rfl, trivial⟩) HB1.out
noncomputable def c_vl_r25 : Code := sub [1, 1, 1, 0, 0] (Tryd.f48.body.getD .skip)
set_option maxRecDepth 1000000 in
set_option maxHeartbeats 16000000 in
theorem vl_r25_wp {Q : Exit → Act → World → Prop} {z : Int} {Am Bm : Option Addr} {nm1 cm nm2 dm : Nat} {wo w : World} (hgm : w.heap[wo.heap.size]? = some (.cells #[.int .i64 z, .slice Am nm1 cm, .slice Bm nm2 dm] 25 (0, 0))) (hN : ∀ a', Frm 168 [(3, .pointer (some ⟨wo.heap.size, 0, none⟩)), (4, .pointer (some ⟨(wo.heap.size + 1), 0, none⟩)), (5, .pointer (some ⟨(wo.heap.size + 1 + 1), 0, none⟩)), (7, .func (Fn.func 82) #[] #[.pointer (some ⟨(wo.heap.size + 1 + 1), 0, none⟩), .pointer (some ⟨wo.heap.size, 0, none⟩)]), (135, .int .i64 z), (136, .int .i64 (0 : Nat))] a' → Q .normal a' w) : ∀ ac, Frm 168 [(3, .pointer (some ⟨wo.heap.size, 0, none⟩)), (4, .pointer (some ⟨(wo.heap.size + 1), 0, none⟩)), (5, .pointer (some ⟨(wo.heap.size + 1 + 1), 0, none⟩)), (7, .func (Fn.func 82) #[] #[.pointer (some ⟨(wo.heap.size + 1 + 1), 0, none⟩), .pointer (some ⟨wo.heap.size, 0, none⟩)])] ac → Code.wp Tryd.prog c_vl_r25 Q ac w := by
  refine frm_open ?_
  refine frame_vl ?_
  intros
  rename_i hq
  obtain ⟨-, -, e0q, e1q, e2q, e3q, -⟩ := hq
  obtain rfl := sI e0q
  obtain rfl := sI e1q
  obtain rfl := sI e2q
  obtain rfl := sI e3q
  conv => arg 2; whnf
  have m0 := cellv hgm 0 rfl
  have m1 := cellv hgm 1 rfl
  have m2 := cellv hgm 2 rfl
  have ml := lt_heap hgm
  clear hgm
  have HN := Lib.hid hN
  clear hN
  go_wp2_with fail
  exact HN.out _ (id ⟨rfl, rfl, rfl, rfl, rfl, rfl, rfl, rfl, trivial⟩)
noncomputable def c_vl_r26 : Code := sub [1, 1, 1, 0, 1, 0, 0, 0] (Tryd.f48.body.getD .skip)
set_option maxRecDepth 1000000 in
set_option maxHeartbeats 16000000 in
theorem vl_r26_wp {Q : Exit → Act → World → Prop} {z : Int} {i : Nat} {wo w : World} (hN : ∀ a', Frm 168 [(3, .pointer (some ⟨wo.heap.size, 0, none⟩)), (4, .pointer (some ⟨(wo.heap.size + 1), 0, none⟩)), (5, .pointer (some ⟨(wo.heap.size + 1 + 1), 0, none⟩)), (7, .func (Fn.func 82) #[] #[.pointer (some ⟨(wo.heap.size + 1 + 1), 0, none⟩), .pointer (some ⟨wo.heap.size, 0, none⟩)]), (135, .int .i64 z), (136, .int .i64 (i : Nat)), (137, .bool (decide ((i : Int) < z)))] a' → Q .normal a' w) : ∀ ac, Frm 168 [(3, .pointer (some ⟨wo.heap.size, 0, none⟩)), (4, .pointer (some ⟨(wo.heap.size + 1), 0, none⟩)), (5, .pointer (some ⟨(wo.heap.size + 1 + 1), 0, none⟩)), (7, .func (Fn.func 82) #[] #[.pointer (some ⟨(wo.heap.size + 1 + 1), 0, none⟩), .pointer (some ⟨wo.heap.size, 0, none⟩)]), (135, .int .i64 z), (136, .int .i64 (i : Nat))] ac → Code.wp Tryd.prog c_vl_r26 Q ac w := by
  refine frm_open ?_
  refine frame_vl ?_
  intros
  rename_i hq
  obtain ⟨-, -, e0q, e1q, e2q, e3q, e4q, e5q, -⟩ := hq
  obtain rfl := sI e0q
  obtain rfl := sI e1q
  obtain rfl := sI e2q
  obtain rfl := sI e3q
  obtain rfl := sI e4q
  obtain rfl := sI e5q
  conv => arg 2; whnf
  by_cases h : (i : Int) < z
  · have t1 : decide ((i : Int) < z) = true := by first | exact decide_eq_true (by omega) | exact beq_iff_eq.2 (by omega) | exact bne_iff_ne.2 (by omega)
    have t2 : (decide ((i : Int) < z)) = true := decide_eq_true h
    rw [t2] at hN
    clear h
    have HN := Lib.hid hN
    clear hN
    go_wp2_with fail
    exact HN.out _ (id ⟨rfl, rfl, rfl, rfl, rfl, rfl, rfl, rfl, rfl, trivial⟩)
  · have t1 : decide ((i : Int) < z) = false := by first | exact decide_eq_false (by omega) | exact beq_eq_false_iff_ne.2 (by omega) | exact bne_eq_false_iff_eq.2 (by omega)
    have t2 : (decide ((i : Int) < z)) = false := decide_eq_false h
    rw [t2] at hN
    clear h
    have HN := Lib.hid hN
    clear hN
    go_wp2_with fail
    exact HN.out _ (id ⟨rfl, rfl, rfl, rfl, rfl, rfl, rfl, rfl, rfl, trivial⟩)
noncomputable def c_vl_r27 : Code := sub [1, 1, 1, 0, 1, 0, 0, 1, 1, 0, 0, 0] (Tryd.f48.body.getD .skip)
set_option maxRecDepth 1000000 in
set_option maxHeartbeats 16000000 in
theorem vl_r27_wp {Q : Exit → Act → World → Prop} {z : Int} {i : Nat} {wo w : World} (hN : ∀ a', Frm 168 [(3, .pointer (some ⟨wo.heap.size, 0, none⟩)), (4, .pointer (some ⟨(wo.heap.size + 1), 0, none⟩)), (5, .pointer (some ⟨(wo.heap.size + 1 + 1), 0, none⟩)), (7, .func (Fn.func 82) #[] #[.pointer (some ⟨(wo.heap.size + 1 + 1), 0, none⟩), .pointer (some ⟨wo.heap.size, 0, none⟩)]), (135, .int .i64 z), (136, .int .i64 (i : Nat)), (15, .int .i64 (i : Nat))] a' → Q .normal a' w) : ∀ ac, Frm 168 [(3, .pointer (some ⟨wo.heap.size, 0, none⟩)), (4, .pointer (some ⟨(wo.heap.size + 1), 0, none⟩)), (5, .pointer (some ⟨(wo.heap.size + 1 + 1), 0, none⟩)), (7, .func (Fn.func 82) #[] #[.pointer (some ⟨(wo.heap.size + 1 + 1), 0, none⟩), .pointer (some ⟨wo.heap.size, 0, none⟩)]), (135, .int .i64 z), (136, .int .i64 (i : Nat))] ac → Code.wp Tryd.prog c_vl_r27 Q ac w := by
  refine frm_open ?_
  refine frame_vl ?_
  intros
  rename_i hq
  obtain ⟨-, -, e0q, e1q, e2q, e3q, e4q, e5q, -⟩ := hq
  obtain rfl := sI e0q
  obtain rfl := sI e1q
  obtain rfl := sI e2q
  obtain rfl := sI e3q
  obtain rfl := sI e4q
  obtain rfl := sI e5q
  conv => arg 2; whnf
  have HN := Lib.hid hN
  clear hN
  go_wp2_with fail
  exact HN.out _ (id ⟨rfl, rfl, rfl, rfl, rfl, rfl, rfl, rfl, rfl, trivial⟩)
noncomputable def c_vl_r29 : Code := sub [1, 1, 1, 0, 1, 0, 0, 1, 1, 0, 0, 1, 1, 0, 0] (Tryd.f48.body.getD .skip)
set_option maxRecDepth 1000000 in
set_option maxHeartbeats 16000000 in
theorem vl_r29_wp {Q : Exit → Act → World → Prop} {wo w : World} {kd : Int} {nm : ByteArray} {A B : Option Addr} {n1 c1 n2 c2 : Nat} (ha : w.heap[wo.heap.size + 1]? = some (.cells #[.int .i64 kd, .string nm, .slice A n1 c1, .slice B n2 c2] 29 (0, 0))) (hN : ∀ a', Frm 168 [(6, .bool (decide (kd = 9)))] a' → Q .normal a' w) : ∀ ac, Frm 168 [(3, .pointer (some ⟨wo.heap.size, 0, none⟩)), (4, .pointer (some ⟨(wo.heap.size + 1), 0, none⟩)), (5, .pointer (some ⟨(wo.heap.size + 1 + 1), 0, none⟩)), (7, .func (Fn.func 82) #[] #[.pointer (some ⟨(wo.heap.size + 1 + 1), 0, none⟩), .pointer (some ⟨wo.heap.size, 0, none⟩)])] ac → Code.wp Tryd.prog c_vl_r29 Q ac w := by
  refine frm_open ?_
  refine frame_vl ?_
  intros
  rename_i hq
  obtain ⟨-, -, e0q, e1q, e2q, e3q, -⟩ := hq
  obtain rfl := sI e0q
  obtain rfl := sI e1q
  obtain rfl := sI e2q
  obtain rfl := sI e3q
  conv => arg 2; whnf
  have a0 := cellv ha 0 rfl
  have a1 := cellv ha 1 rfl
  have a2 := cellv ha 2 rfl
  have a3 := cellv ha 3 rfl
  have al := lt_heap ha
  clear ha
  by_cases h : kd = 9
  · have t1 : (kd == 9) = true := beq_iff_eq.2 h
    rw [decide_eq_true h] at hN
    clear h
    have HN := Lib.hid hN
    clear hN
    go_wp2_with fail
    exact HN.out _ (id ⟨rfl, rfl, rfl, trivial⟩)
  · have t1 : (kd == 9) = false := beq_eq_false_iff_ne.2 h
    rw [decide_eq_false h] at hN
    clear h
    have HN := Lib.hid hN
    clear hN
    go_wp2_with fail
    exact HN.out _ (id ⟨rfl, rfl, rfl, trivial⟩)
noncomputable def c_vl_r31 : Code := sub [1, 1, 1, 1, 0] (Tryd.f48.body.getD .skip)
set_option maxRecDepth 1000000 in
set_option maxHeartbeats 16000000 in
theorem vl_r31_wp {Q : Exit → Act → World → Prop} {wo w : World} {kd : Int} {nm : ByteArray} {A B : Option Addr} {n1 c1 n2 c2 : Nat} (ha : w.heap[wo.heap.size + 1]? = some (.cells #[.int .i64 kd, .string nm, .slice A n1 c1, .slice B n2 c2] 29 (0, 0))) (hN : ∀ a', Frm 168 [(6, .bool (decide (kd = 8)))] a' → Q .normal a' w) : ∀ ac, Frm 168 [(3, .pointer (some ⟨wo.heap.size, 0, none⟩)), (4, .pointer (some ⟨(wo.heap.size + 1), 0, none⟩)), (5, .pointer (some ⟨(wo.heap.size + 1 + 1), 0, none⟩)), (7, .func (Fn.func 82) #[] #[.pointer (some ⟨(wo.heap.size + 1 + 1), 0, none⟩), .pointer (some ⟨wo.heap.size, 0, none⟩)])] ac → Code.wp Tryd.prog c_vl_r31 Q ac w := by
  refine frm_open ?_
  refine frame_vl ?_
  intros
  rename_i hq
  obtain ⟨-, -, e0q, e1q, e2q, e3q, -⟩ := hq
  obtain rfl := sI e0q
  obtain rfl := sI e1q
  obtain rfl := sI e2q
  obtain rfl := sI e3q
  conv => arg 2; whnf
  have a0 := cellv ha 0 rfl
  have a1 := cellv ha 1 rfl
  have a2 := cellv ha 2 rfl
  have a3 := cellv ha 3 rfl
  have al := lt_heap ha
  clear ha
  by_cases h : kd = 8
  · have t1 : (kd == 8) = true := beq_iff_eq.2 h
    rw [decide_eq_true h] at hN
    clear h
    have HN := Lib.hid hN
    clear hN
    go_wp2_with fail
    exact HN.out _ (id ⟨rfl, rfl, rfl, trivial⟩)
  · have t1 : (kd == 8) = false := beq_eq_false_iff_ne.2 h
    rw [decide_eq_false h] at hN
    clear h
    have HN := Lib.hid hN
    clear hN
    go_wp2_with fail
    exact HN.out _ (id ⟨rfl, rfl, rfl, trivial⟩)
noncomputable def c_vl_r30 : Code := sub [1, 1, 1, 0, 1, 0, 0, 1, 1, 1] (Tryd.f48.body.getD .skip)
set_option maxRecDepth 1000000 in
set_option maxHeartbeats 16000000 in
theorem vl_r30_wp {Q : Exit → Act → World → Prop} {z : Int} {i : Nat} {wo w : World} (hi : (i : Int) < 1000) (hN : ∀ a', Frm 168 [(3, .pointer (some ⟨wo.heap.size, 0, none⟩)), (4, .pointer (some ⟨(wo.heap.size + 1), 0, none⟩)), (5, .pointer (some ⟨(wo.heap.size + 1 + 1), 0, none⟩)), (7, .func (Fn.func 82) #[] #[.pointer (some ⟨(wo.heap.size + 1 + 1), 0, none⟩), .pointer (some ⟨wo.heap.size, 0, none⟩)]), (135, .int .i64 z), (136, .int .i64 (i + 1 : Nat))] a' → Q .normal a' w) : ∀ ac, Frm 168 [(3, .pointer (some ⟨wo.heap.size, 0, none⟩)), (4, .pointer (some ⟨(wo.heap.size + 1), 0, none⟩)), (5, .pointer (some ⟨(wo.heap.size + 1 + 1), 0, none⟩)), (7, .func (Fn.func 82) #[] #[.pointer (some ⟨(wo.heap.size + 1 + 1), 0, none⟩), .pointer (some ⟨wo.heap.size, 0, none⟩)]), (135, .int .i64 z), (136, .int .i64 (i : Nat))] ac → Code.wp Tryd.prog c_vl_r30 Q ac w := by
  refine frm_open ?_
  refine frame_vl ?_
  intros
  rename_i hq
  obtain ⟨-, -, e0q, e1q, e2q, e3q, e4q, e5q, -⟩ := hq
  obtain rfl := sI e0q
  obtain rfl := sI e1q
  obtain rfl := sI e2q
  obtain rfl := sI e3q
  obtain rfl := sI e4q
  obtain rfl := sI e5q
  conv => arg 2; whnf
  have hi4 : (i : Int) ≤ 9223372036854775806 := by omega
  have HN := Lib.hid hN
  clear hN
  go_wp2_with fail
  exact HN.out _ (id ⟨rfl, rfl, rfl, rfl, rfl, rfl, rfl, rfl, trivial⟩)
theorem infoEnv : (Tryd.prog.info? 72).map (fun i => (i.zero, i.size, i.bytes)) = some (some (.agg #[.string ⟨#[]⟩, .int .i64 0]), 2, 24) := by kernel_rfl
def envVals (e : List (ByteArray × Int)) : List Value := e.flatMap (fun p => [.string p.1, .int .i64 p.2])
theorem envVals_len : ∀ e : List (ByteArray × Int), (envVals e).length = e.length * 2
  | [] => rfl
  | p :: e => by
    have := envVals_len e
    simp only [envVals, List.flatMap_cons, List.length_append, List.length_cons, List.length_nil] at this ⊢; omega
noncomputable def c_vl_r28n : Code := sub [1, 1, 1, 0, 1, 0, 0, 1, 1, 0, 0, 1, 0] (Tryd.f48.body.getD .skip)
set_option maxRecDepth 1000000 in
set_option maxHeartbeats 16000000 in
theorem vl_r28n_wp {K : Act → World → Prop} {bb b8 bx : Bool} {b o i ee : Nat} {k0 : Int} {s0 : ByteArray} {A0 B0 : Option Addr} {p0 q0 r0 u0 : Nat} {z : Int} {Am Bm : Option Addr} {nm1 cm nm2 dm : Nat} {wo w : World} {kd : Int} {nm : ByteArray} {A : Option Addr} {n1 c1 c2 : Nat} (hgm : w.heap[wo.heap.size]? = some (.cells #[.int .i64 z, .slice Am nm1 cm, .slice Bm nm2 dm] 25 (0, 0))) (ha : w.heap[wo.heap.size + 1]? = some (.cells #[.int .i64 kd, .string nm, .slice A n1 c1, .slice (some ⟨b, o, none⟩) 1 c2] 29 (0, 0))) (hge : w.heap[wo.heap.size + 1 + 1]? = some (.cells #[.slice none 0 ee] 71 (0, 0))) (e0_0 : w.cell? ⟨b, o, none⟩ = some (.int .i64 k0)) (e0_1 : w.cell? ⟨b, o + 1, none⟩ = some (.string s0)) (e0_2 : w.cell? ⟨b, o + 2, none⟩ = some (.slice A0 p0 q0)) (e0_3 : w.cell? ⟨b, o + 3, none⟩ = some (.slice B0 r0 u0)) (hbl : b < w.heap.size) (hk8 : (kd == 8) = b8) (hbx : (bb != b8) = bx) (hc : ∀ (W : World) (v' : Value), W.ownsRow (w.heap.size + 1) 72 2 v' (0 + 1) ([] ++ [.string nm, .int .i64 (i : Nat)]) → Below w.heap.size w W → Calls Tryd.prog 48 #[.agg #[.int .i64 z, .slice Am nm1 cm, .slice Bm nm2 dm], .agg #[.int .i64 k0, .string s0, .slice A0 p0 q0, .slice B0 r0 u0], v'] W fun e w' => e = .returned (.bool bb) ∧ Below w.heap.size w w') (hN : ∀ a' w', Frm 168 [(3, .pointer (some ⟨wo.heap.size, 0, none⟩)), (4, .pointer (some ⟨(wo.heap.size + 1), 0, none⟩)), (5, .pointer (some ⟨(wo.heap.size + 1 + 1), 0, none⟩)), (7, .func (Fn.func 82) #[] #[.pointer (some ⟨(wo.heap.size + 1 + 1), 0, none⟩), .pointer (some ⟨wo.heap.size, 0, none⟩)]), (135, .int .i64 z), (136, .int .i64 (i : Nat)), (160, .bool bx)] a' → Below w.heap.size w w' → K a' w') : ∀ ac, Frm 168 [(3, .pointer (some ⟨wo.heap.size, 0, none⟩)), (4, .pointer (some ⟨(wo.heap.size + 1), 0, none⟩)), (5, .pointer (some ⟨(wo.heap.size + 1 + 1), 0, none⟩)), (7, .func (Fn.func 82) #[] #[.pointer (some ⟨(wo.heap.size + 1 + 1), 0, none⟩), .pointer (some ⟨wo.heap.size, 0, none⟩)]), (135, .int .i64 z), (136, .int .i64 (i : Nat)), (15, .int .i64 (i : Nat))] ac → Code.wp Tryd.prog c_vl_r28n (Exit.then K (fun _ _ _ => False)) ac w := by
  refine frm_open ?_
  refine frame_vl ?_
  intros
  rename_i hq
  obtain ⟨-, -, e0q, e1q, e2q, e3q, e4q, e5q, e6q, -⟩ := hq
  obtain rfl := sI e0q
  obtain rfl := sI e1q
  obtain rfl := sI e2q
  obtain rfl := sI e3q
  obtain rfl := sI e4q
  obtain rfl := sI e5q
  obtain rfl := sI e6q
  conv => arg 2; whnf
  obtain ⟨ti, hti, ht0, ht1, ht2⟩ := info_parts infoEnv
  have a0 := cellv ha 0 rfl
  have a1 := cellv ha 1 rfl
  have a2 := cellv ha 2 rfl
  have a3 := cellv ha 3 rfl
  have al := lt_heap ha
  clear ha
  have m0 := cellv hgm 0 rfl
  have m1 := cellv hgm 1 rfl
  have m2 := cellv hgm 2 rfl
  have ml := lt_heap hgm
  clear hgm
  have g0 := cellv hge 0 rfl
  have gl := lt_heap hge
  clear hge
  subst hbx
  cases bb <;> cases b8
  · have t8 : (kd == 8) = false := hk8
    clear hk8
    have HC := Lib.hid hc
    have HN := Lib.hid hN
    clear hc hN
    go_region_held3 (fun w' => w'.cell? ⟨wo.heap.size, 0, none⟩ = some (.int .i64 z) ∧ w'.cell? ⟨wo.heap.size, 1, none⟩ = some (.slice Am nm1 cm) ∧ w'.cell? ⟨wo.heap.size, 2, none⟩ = some (.slice Bm nm2 dm) ∧ w'.cell? ⟨wo.heap.size + 1, 0, none⟩ = some (.int .i64 kd) ∧ w'.cell? ⟨wo.heap.size + 1, 1, none⟩ = some (.string nm) ∧ w'.cell? ⟨wo.heap.size + 1, 3, none⟩ = some (.slice (some ⟨b, o, none⟩) 1 c2) ∧ w'.cell? ⟨wo.heap.size + 1 + 1, 0, none⟩ = some (.slice none 0 ee) ∧ w'.cell? ⟨b, o, none⟩ = some (.int .i64 k0) ∧ w'.cell? ⟨b, o + 1, none⟩ = some (.string s0) ∧ w'.cell? ⟨b, o + 2, none⟩ = some (.slice A0 p0 q0) ∧ w'.cell? ⟨b, o + 3, none⟩ = some (.slice B0 r0 u0))
      ((first | (go_keep; done) | (go_split_ands; (repeat' apply And.intro) <;> (refine (kc5 _ _ (by omega)).trans ?_; assumption))))
      (first
        | ((refine step_append_grows (by rfl) (.tmp 149) (.tmp 154) 71 (by rfl) 72 ti (.agg #[.string ⟨#[]⟩, .int .i64 0]) 2 24 Tryd.underlying71 hti ht0 ht1 ht2 rfl (by decide) none 0 0 [] (by rfl) ?c0 ?c1 ?c2 ⟨w.heap.size, 0, none⟩ 1 1 [.string nm, .int .i64 (i : Nat)] (by rfl) rfl ?c3 ?c4 ?c5 ?c6 ?c7 ?_; (case c0 => (first | (intro h; cases h; done) | exact fun _ => ⟨rfl, rfl⟩)); (case c1 => (rfl)); (case c2 => (intro b9 hb9; cases hb9)); (case c3 => (exact World.news_of_block (cs := #[.string nm, .int .i64 (i : Nat)]) (t := 72) (fr := (0, 0)) (by first | exact heap_drew (heap_alloc_new w _) | exact heap_alloc_new w _ | exact heap_alloc_new w.drew _))); (case c4 => (intro u hu; simp at hu; rcases hu with rfl | rfl <;> rfl)); (case c5 => omega); (case c6 => (unfold maxLen; omega)); (case c7 => omega); intro v' w2 hown hgrow; have hbw : Below w.heap.size w w2 := ⟨hgrow.os, hgrow.tape, hgrow.output, by have := hgrow.size; simp at this; omega, fun k hk => (hgrow.block k (by simp; omega) (by simp)).trans (by first | exact heap_drew (heap_old hk rfl) | exact heap_old hk rfl)⟩; have kc5 : ∀ k q, k < w.heap.size → w2.cell? ⟨k, q, none⟩ = _ := (fun k q h => hbw.cell (p := ⟨k, q, none⟩) h); have HOWN := Lib.hid hown; have HB0 := Lib.hid hbw; clear hown hgrow hbw))
        | ((with_reducible refine (HC.out _ _ ?hown ?hbel).mono ?_); (case hown => simpa using HOWN.out); (case hbel => exact HB0.out); rintro e w4 ⟨rfl, hw4⟩; have kc5 : ∀ k q, k < w.heap.size → w4.cell? ⟨k, q, none⟩ = _ := (fun k q h => hw4.cell (p := ⟨k, q, none⟩) h); have HB1 := Lib.hid hw4; clear hw4)
        | fail)
    all_goals go_wp2_with fail
    all_goals exact HN.out _ _ (id ⟨rfl, rfl, rfl, rfl, rfl, rfl, rfl, rfl, rfl, trivial⟩) HB1.out
  · have t8 : (kd == 8) = true := hk8
    clear hk8
    have HC := Lib.hid hc
    have HN := Lib.hid hN
    clear hc hN
    go_region_held3 (fun w' => w'.cell? ⟨wo.heap.size, 0, none⟩ = some (.int .i64 z) ∧ w'.cell? ⟨wo.heap.size, 1, none⟩ = some (.slice Am nm1 cm) ∧ w'.cell? ⟨wo.heap.size, 2, none⟩ = some (.slice Bm nm2 dm) ∧ w'.cell? ⟨wo.heap.size + 1, 0, none⟩ = some (.int .i64 kd) ∧ w'.cell? ⟨wo.heap.size + 1, 1, none⟩ = some (.string nm) ∧ w'.cell? ⟨wo.heap.size + 1, 3, none⟩ = some (.slice (some ⟨b, o, none⟩) 1 c2) ∧ w'.cell? ⟨wo.heap.size + 1 + 1, 0, none⟩ = some (.slice none 0 ee) ∧ w'.cell? ⟨b, o, none⟩ = some (.int .i64 k0) ∧ w'.cell? ⟨b, o + 1, none⟩ = some (.string s0) ∧ w'.cell? ⟨b, o + 2, none⟩ = some (.slice A0 p0 q0) ∧ w'.cell? ⟨b, o + 3, none⟩ = some (.slice B0 r0 u0))
      ((first | (go_keep; done) | (go_split_ands; (repeat' apply And.intro) <;> (refine (kc5 _ _ (by omega)).trans ?_; assumption))))
      (first
        | ((refine step_append_grows (by rfl) (.tmp 149) (.tmp 154) 71 (by rfl) 72 ti (.agg #[.string ⟨#[]⟩, .int .i64 0]) 2 24 Tryd.underlying71 hti ht0 ht1 ht2 rfl (by decide) none 0 0 [] (by rfl) ?c0 ?c1 ?c2 ⟨w.heap.size, 0, none⟩ 1 1 [.string nm, .int .i64 (i : Nat)] (by rfl) rfl ?c3 ?c4 ?c5 ?c6 ?c7 ?_; (case c0 => (first | (intro h; cases h; done) | exact fun _ => ⟨rfl, rfl⟩)); (case c1 => (rfl)); (case c2 => (intro b9 hb9; cases hb9)); (case c3 => (exact World.news_of_block (cs := #[.string nm, .int .i64 (i : Nat)]) (t := 72) (fr := (0, 0)) (by first | exact heap_drew (heap_alloc_new w _) | exact heap_alloc_new w _ | exact heap_alloc_new w.drew _))); (case c4 => (intro u hu; simp at hu; rcases hu with rfl | rfl <;> rfl)); (case c5 => omega); (case c6 => (unfold maxLen; omega)); (case c7 => omega); intro v' w2 hown hgrow; have hbw : Below w.heap.size w w2 := ⟨hgrow.os, hgrow.tape, hgrow.output, by have := hgrow.size; simp at this; omega, fun k hk => (hgrow.block k (by simp; omega) (by simp)).trans (by first | exact heap_drew (heap_old hk rfl) | exact heap_old hk rfl)⟩; have kc5 : ∀ k q, k < w.heap.size → w2.cell? ⟨k, q, none⟩ = _ := (fun k q h => hbw.cell (p := ⟨k, q, none⟩) h); have HOWN := Lib.hid hown; have HB0 := Lib.hid hbw; clear hown hgrow hbw))
        | ((with_reducible refine (HC.out _ _ ?hown ?hbel).mono ?_); (case hown => simpa using HOWN.out); (case hbel => exact HB0.out); rintro e w4 ⟨rfl, hw4⟩; have kc5 : ∀ k q, k < w.heap.size → w4.cell? ⟨k, q, none⟩ = _ := (fun k q h => hw4.cell (p := ⟨k, q, none⟩) h); have HB1 := Lib.hid hw4; clear hw4)
        | fail)
    all_goals go_wp2_with fail
    all_goals exact HN.out _ _ (id ⟨rfl, rfl, rfl, rfl, rfl, rfl, rfl, rfl, rfl, trivial⟩) HB1.out
  · have t8 : (kd == 8) = false := hk8
    clear hk8
    have HC := Lib.hid hc
    have HN := Lib.hid hN
    clear hc hN
    go_region_held3 (fun w' => w'.cell? ⟨wo.heap.size, 0, none⟩ = some (.int .i64 z) ∧ w'.cell? ⟨wo.heap.size, 1, none⟩ = some (.slice Am nm1 cm) ∧ w'.cell? ⟨wo.heap.size, 2, none⟩ = some (.slice Bm nm2 dm) ∧ w'.cell? ⟨wo.heap.size + 1, 0, none⟩ = some (.int .i64 kd) ∧ w'.cell? ⟨wo.heap.size + 1, 1, none⟩ = some (.string nm) ∧ w'.cell? ⟨wo.heap.size + 1, 3, none⟩ = some (.slice (some ⟨b, o, none⟩) 1 c2) ∧ w'.cell? ⟨wo.heap.size + 1 + 1, 0, none⟩ = some (.slice none 0 ee) ∧ w'.cell? ⟨b, o, none⟩ = some (.int .i64 k0) ∧ w'.cell? ⟨b, o + 1, none⟩ = some (.string s0) ∧ w'.cell? ⟨b, o + 2, none⟩ = some (.slice A0 p0 q0) ∧ w'.cell? ⟨b, o + 3, none⟩ = some (.slice B0 r0 u0))
      ((first | (go_keep; done) | (go_split_ands; (repeat' apply And.intro) <;> (refine (kc5 _ _ (by omega)).trans ?_; assumption))))
      (first
        | ((refine step_append_grows (by rfl) (.tmp 149) (.tmp 154) 71 (by rfl) 72 ti (.agg #[.string ⟨#[]⟩, .int .i64 0]) 2 24 Tryd.underlying71 hti ht0 ht1 ht2 rfl (by decide) none 0 0 [] (by rfl) ?c0 ?c1 ?c2 ⟨w.heap.size, 0, none⟩ 1 1 [.string nm, .int .i64 (i : Nat)] (by rfl) rfl ?c3 ?c4 ?c5 ?c6 ?c7 ?_; (case c0 => (first | (intro h; cases h; done) | exact fun _ => ⟨rfl, rfl⟩)); (case c1 => (rfl)); (case c2 => (intro b9 hb9; cases hb9)); (case c3 => (exact World.news_of_block (cs := #[.string nm, .int .i64 (i : Nat)]) (t := 72) (fr := (0, 0)) (by first | exact heap_drew (heap_alloc_new w _) | exact heap_alloc_new w _ | exact heap_alloc_new w.drew _))); (case c4 => (intro u hu; simp at hu; rcases hu with rfl | rfl <;> rfl)); (case c5 => omega); (case c6 => (unfold maxLen; omega)); (case c7 => omega); intro v' w2 hown hgrow; have hbw : Below w.heap.size w w2 := ⟨hgrow.os, hgrow.tape, hgrow.output, by have := hgrow.size; simp at this; omega, fun k hk => (hgrow.block k (by simp; omega) (by simp)).trans (by first | exact heap_drew (heap_old hk rfl) | exact heap_old hk rfl)⟩; have kc5 : ∀ k q, k < w.heap.size → w2.cell? ⟨k, q, none⟩ = _ := (fun k q h => hbw.cell (p := ⟨k, q, none⟩) h); have HOWN := Lib.hid hown; have HB0 := Lib.hid hbw; clear hown hgrow hbw))
        | ((with_reducible refine (HC.out _ _ ?hown ?hbel).mono ?_); (case hown => simpa using HOWN.out); (case hbel => exact HB0.out); rintro e w4 ⟨rfl, hw4⟩; have kc5 : ∀ k q, k < w.heap.size → w4.cell? ⟨k, q, none⟩ = _ := (fun k q h => hw4.cell (p := ⟨k, q, none⟩) h); have HB1 := Lib.hid hw4; clear hw4)
        | fail)
    all_goals go_wp2_with fail
    all_goals exact HN.out _ _ (id ⟨rfl, rfl, rfl, rfl, rfl, rfl, rfl, rfl, rfl, trivial⟩) HB1.out
  · have t8 : (kd == 8) = true := hk8
    clear hk8
    have HC := Lib.hid hc
    have HN := Lib.hid hN
    clear hc hN
    go_region_held3 (fun w' => w'.cell? ⟨wo.heap.size, 0, none⟩ = some (.int .i64 z) ∧ w'.cell? ⟨wo.heap.size, 1, none⟩ = some (.slice Am nm1 cm) ∧ w'.cell? ⟨wo.heap.size, 2, none⟩ = some (.slice Bm nm2 dm) ∧ w'.cell? ⟨wo.heap.size + 1, 0, none⟩ = some (.int .i64 kd) ∧ w'.cell? ⟨wo.heap.size + 1, 1, none⟩ = some (.string nm) ∧ w'.cell? ⟨wo.heap.size + 1, 3, none⟩ = some (.slice (some ⟨b, o, none⟩) 1 c2) ∧ w'.cell? ⟨wo.heap.size + 1 + 1, 0, none⟩ = some (.slice none 0 ee) ∧ w'.cell? ⟨b, o, none⟩ = some (.int .i64 k0) ∧ w'.cell? ⟨b, o + 1, none⟩ = some (.string s0) ∧ w'.cell? ⟨b, o + 2, none⟩ = some (.slice A0 p0 q0) ∧ w'.cell? ⟨b, o + 3, none⟩ = some (.slice B0 r0 u0))
      ((first | (go_keep; done) | (go_split_ands; (repeat' apply And.intro) <;> (refine (kc5 _ _ (by omega)).trans ?_; assumption))))
      (first
        | ((refine step_append_grows (by rfl) (.tmp 149) (.tmp 154) 71 (by rfl) 72 ti (.agg #[.string ⟨#[]⟩, .int .i64 0]) 2 24 Tryd.underlying71 hti ht0 ht1 ht2 rfl (by decide) none 0 0 [] (by rfl) ?c0 ?c1 ?c2 ⟨w.heap.size, 0, none⟩ 1 1 [.string nm, .int .i64 (i : Nat)] (by rfl) rfl ?c3 ?c4 ?c5 ?c6 ?c7 ?_; (case c0 => (first | (intro h; cases h; done) | exact fun _ => ⟨rfl, rfl⟩)); (case c1 => (rfl)); (case c2 => (intro b9 hb9; cases hb9)); (case c3 => (exact World.news_of_block (cs := #[.string nm, .int .i64 (i : Nat)]) (t := 72) (fr := (0, 0)) (by first | exact heap_drew (heap_alloc_new w _) | exact heap_alloc_new w _ | exact heap_alloc_new w.drew _))); (case c4 => (intro u hu; simp at hu; rcases hu with rfl | rfl <;> rfl)); (case c5 => omega); (case c6 => (unfold maxLen; omega)); (case c7 => omega); intro v' w2 hown hgrow; have hbw : Below w.heap.size w w2 := ⟨hgrow.os, hgrow.tape, hgrow.output, by have := hgrow.size; simp at this; omega, fun k hk => (hgrow.block k (by simp; omega) (by simp)).trans (by first | exact heap_drew (heap_old hk rfl) | exact heap_old hk rfl)⟩; have kc5 : ∀ k q, k < w.heap.size → w2.cell? ⟨k, q, none⟩ = _ := (fun k q h => hbw.cell (p := ⟨k, q, none⟩) h); have HOWN := Lib.hid hown; have HB0 := Lib.hid hbw; clear hown hgrow hbw))
        | ((with_reducible refine (HC.out _ _ ?hown ?hbel).mono ?_); (case hown => simpa using HOWN.out); (case hbel => exact HB0.out); rintro e w4 ⟨rfl, hw4⟩; have kc5 : ∀ k q, k < w.heap.size → w4.cell? ⟨k, q, none⟩ = _ := (fun k q h => hw4.cell (p := ⟨k, q, none⟩) h); have HB1 := Lib.hid hw4; clear hw4)
        | fail)
    all_goals go_wp2_with fail
    all_goals exact HN.out _ _ (id ⟨rfl, rfl, rfl, rfl, rfl, rfl, rfl, rfl, rfl, trivial⟩) HB1.out
noncomputable def c_vl_r28 : Code := sub [1, 1, 1, 0, 1, 0, 0, 1, 1, 0, 0, 1, 0] (Tryd.f48.body.getD .skip)
set_option maxRecDepth 1000000 in
set_option maxHeartbeats 16000000 in
theorem vl_r28_wp {K : Act → World → Prop} {bb b8 bx : Bool} {b o b2 o2 i me ee : Nat} {env : List (ByteArray × Int)} {k0 : Int} {s0 : ByteArray} {A0 B0 : Option Addr} {p0 q0 r0 u0 : Nat} {z : Int} {Am Bm : Option Addr} {nm1 cm nm2 dm : Nat} {wo w : World} {kd : Int} {nm : ByteArray} {A : Option Addr} {n1 c1 c2 : Nat} (hgm : w.heap[wo.heap.size]? = some (.cells #[.int .i64 z, .slice Am nm1 cm, .slice Bm nm2 dm] 25 (0, 0))) (ha : w.heap[wo.heap.size + 1]? = some (.cells #[.int .i64 kd, .string nm, .slice A n1 c1, .slice (some ⟨b, o, none⟩) 1 c2] 29 (0, 0))) (hlen : env.length = me) (hm : me ≤ 1000000) (hme : me ≤ ee) (hbw : b2 < w.heap.size) (hcell : ∀ j u, (envVals env)[j]? = some u → w.cell? ⟨b2, o2 + j, none⟩ = some u) (hge : w.heap[wo.heap.size + 1 + 1]? = some (.cells #[.slice (some ⟨b2, o2, none⟩) me ee] 71 (0, 0))) (e0_0 : w.cell? ⟨b, o, none⟩ = some (.int .i64 k0)) (e0_1 : w.cell? ⟨b, o + 1, none⟩ = some (.string s0)) (e0_2 : w.cell? ⟨b, o + 2, none⟩ = some (.slice A0 p0 q0)) (e0_3 : w.cell? ⟨b, o + 3, none⟩ = some (.slice B0 r0 u0)) (hbl : b < w.heap.size) (hk8 : (kd == 8) = b8) (hbx : (bb != b8) = bx) (hc : ∀ (W : World) (v' : Value), W.ownsRow (w.heap.size + 1) 72 2 v' (me + 1) (envVals env ++ [.string nm, .int .i64 (i : Nat)]) → Below w.heap.size w W → Calls Tryd.prog 48 #[.agg #[.int .i64 z, .slice Am nm1 cm, .slice Bm nm2 dm], .agg #[.int .i64 k0, .string s0, .slice A0 p0 q0, .slice B0 r0 u0], v'] W fun e w' => e = .returned (.bool bb) ∧ Below w.heap.size w w') (hN : ∀ a' w', Frm 168 [(3, .pointer (some ⟨wo.heap.size, 0, none⟩)), (4, .pointer (some ⟨(wo.heap.size + 1), 0, none⟩)), (5, .pointer (some ⟨(wo.heap.size + 1 + 1), 0, none⟩)), (7, .func (Fn.func 82) #[] #[.pointer (some ⟨(wo.heap.size + 1 + 1), 0, none⟩), .pointer (some ⟨wo.heap.size, 0, none⟩)]), (135, .int .i64 z), (136, .int .i64 (i : Nat)), (160, .bool bx)] a' → Below w.heap.size w w' → K a' w') : ∀ ac, Frm 168 [(3, .pointer (some ⟨wo.heap.size, 0, none⟩)), (4, .pointer (some ⟨(wo.heap.size + 1), 0, none⟩)), (5, .pointer (some ⟨(wo.heap.size + 1 + 1), 0, none⟩)), (7, .func (Fn.func 82) #[] #[.pointer (some ⟨(wo.heap.size + 1 + 1), 0, none⟩), .pointer (some ⟨wo.heap.size, 0, none⟩)]), (135, .int .i64 z), (136, .int .i64 (i : Nat)), (15, .int .i64 (i : Nat))] ac → Code.wp Tryd.prog c_vl_r28 (Exit.then K (fun _ _ _ => False)) ac w := by
  refine frm_open ?_
  refine frame_vl ?_
  intros
  rename_i hq
  obtain ⟨-, -, e0q, e1q, e2q, e3q, e4q, e5q, e6q, -⟩ := hq
  obtain rfl := sI e0q
  obtain rfl := sI e1q
  obtain rfl := sI e2q
  obtain rfl := sI e3q
  obtain rfl := sI e4q
  obtain rfl := sI e5q
  obtain rfl := sI e6q
  conv => arg 2; whnf
  obtain ⟨ti, hti, ht0, ht1, ht2⟩ := info_parts infoEnv
  have q1 : (me : Int) ≤ (ee : Int) := by omega
  have hcA : ∀ j u, (envVals env)[j]? = some u → (w.alloc (.cells #[.string nm, .int .i64 (i : Nat)] 72)).cell? ⟨b2, o2 + j, none⟩ = some u := fun j u hu => (cell_keep (heap_old hbw rfl) _).trans (hcell j u hu)
  have HCELLA := Lib.hid hcA
  have hbl2 : (envVals env).length = me * 2 := by rw [envVals_len, hlen]
  have HBL := Lib.hid hbl2
  clear hcA hcell hbl2
  have a0 := cellv ha 0 rfl
  have a1 := cellv ha 1 rfl
  have a2 := cellv ha 2 rfl
  have a3 := cellv ha 3 rfl
  have al := lt_heap ha
  clear ha
  have m0 := cellv hgm 0 rfl
  have m1 := cellv hgm 1 rfl
  have m2 := cellv hgm 2 rfl
  have ml := lt_heap hgm
  clear hgm
  have g0 := cellv hge 0 rfl
  have gl := lt_heap hge
  clear hge
  subst hbx
  cases bb <;> cases b8
  · have t8 : (kd == 8) = false := hk8
    clear hk8
    have HC := Lib.hid hc
    have HN := Lib.hid hN
    clear hc hN
    go_region_held3 (fun w' => w'.cell? ⟨wo.heap.size, 0, none⟩ = some (.int .i64 z) ∧ w'.cell? ⟨wo.heap.size, 1, none⟩ = some (.slice Am nm1 cm) ∧ w'.cell? ⟨wo.heap.size, 2, none⟩ = some (.slice Bm nm2 dm) ∧ w'.cell? ⟨wo.heap.size + 1, 0, none⟩ = some (.int .i64 kd) ∧ w'.cell? ⟨wo.heap.size + 1, 1, none⟩ = some (.string nm) ∧ w'.cell? ⟨wo.heap.size + 1, 3, none⟩ = some (.slice (some ⟨b, o, none⟩) 1 c2) ∧ w'.cell? ⟨wo.heap.size + 1 + 1, 0, none⟩ = some (.slice (some ⟨b2, o2, none⟩) me ee) ∧ w'.cell? ⟨b, o, none⟩ = some (.int .i64 k0) ∧ w'.cell? ⟨b, o + 1, none⟩ = some (.string s0) ∧ w'.cell? ⟨b, o + 2, none⟩ = some (.slice A0 p0 q0) ∧ w'.cell? ⟨b, o + 3, none⟩ = some (.slice B0 r0 u0))
      ((first | (go_keep; done) | (go_split_ands; (repeat' apply And.intro) <;> (refine (kc5 _ _ (by omega)).trans ?_; assumption))))
      (first
        | ((refine step_append_grows (by rfl) (.tmp 149) (.tmp 154) 71 (by rfl) 72 ti (.agg #[.string ⟨#[]⟩, .int .i64 0]) 2 24 Tryd.underlying71 hti ht0 ht1 ht2 rfl (by decide) (some ⟨b2, o2, none⟩) me me (envVals env) (by rfl) ?c0 ?c1 ?c2 ⟨w.heap.size, 0, none⟩ 1 1 [.string nm, .int .i64 (i : Nat)] (by rfl) rfl ?c3 ?c4 ?c5 ?c6 ?c7 ?_; (case c0 => (first | (intro h; cases h; done) | exact fun _ => ⟨rfl, rfl⟩)); (case c1 => (exact HBL.out)); (case c2 => (intro b9 hb9 j u hu; cases hb9; rw [Addr.add_lit]; exact HCELLA.out j u hu)); (case c3 => (exact World.news_of_block (cs := #[.string nm, .int .i64 (i : Nat)]) (t := 72) (fr := (0, 0)) (by first | exact heap_drew (heap_alloc_new w _) | exact heap_alloc_new w _ | exact heap_alloc_new w.drew _))); (case c4 => (intro u hu; simp at hu; rcases hu with rfl | rfl <;> rfl)); (case c5 => omega); (case c6 => (unfold maxLen; omega)); (case c7 => omega); intro v' w2 hown hgrow; have hbw : Below w.heap.size w w2 := ⟨hgrow.os, hgrow.tape, hgrow.output, by have := hgrow.size; simp at this; omega, fun k hk => (hgrow.block k (by simp; omega) (by simp)).trans (by first | exact heap_drew (heap_old hk rfl) | exact heap_old hk rfl)⟩; have kc5 : ∀ k q, k < w.heap.size → w2.cell? ⟨k, q, none⟩ = _ := (fun k q h => hbw.cell (p := ⟨k, q, none⟩) h); have HOWN := Lib.hid hown; have HB0 := Lib.hid hbw; clear hown hgrow hbw))
        | ((with_reducible refine (HC.out _ _ ?hown ?hbel).mono ?_); (case hown => simpa using HOWN.out); (case hbel => exact HB0.out); rintro e w4 ⟨rfl, hw4⟩; have kc5 : ∀ k q, k < w.heap.size → w4.cell? ⟨k, q, none⟩ = _ := (fun k q h => hw4.cell (p := ⟨k, q, none⟩) h); have HB1 := Lib.hid hw4; clear hw4)
        | fail)
    all_goals go_wp2_with fail
    all_goals exact HN.out _ _ (id ⟨rfl, rfl, rfl, rfl, rfl, rfl, rfl, rfl, rfl, trivial⟩) HB1.out
  · have t8 : (kd == 8) = true := hk8
    clear hk8
    have HC := Lib.hid hc
    have HN := Lib.hid hN
    clear hc hN
    go_region_held3 (fun w' => w'.cell? ⟨wo.heap.size, 0, none⟩ = some (.int .i64 z) ∧ w'.cell? ⟨wo.heap.size, 1, none⟩ = some (.slice Am nm1 cm) ∧ w'.cell? ⟨wo.heap.size, 2, none⟩ = some (.slice Bm nm2 dm) ∧ w'.cell? ⟨wo.heap.size + 1, 0, none⟩ = some (.int .i64 kd) ∧ w'.cell? ⟨wo.heap.size + 1, 1, none⟩ = some (.string nm) ∧ w'.cell? ⟨wo.heap.size + 1, 3, none⟩ = some (.slice (some ⟨b, o, none⟩) 1 c2) ∧ w'.cell? ⟨wo.heap.size + 1 + 1, 0, none⟩ = some (.slice (some ⟨b2, o2, none⟩) me ee) ∧ w'.cell? ⟨b, o, none⟩ = some (.int .i64 k0) ∧ w'.cell? ⟨b, o + 1, none⟩ = some (.string s0) ∧ w'.cell? ⟨b, o + 2, none⟩ = some (.slice A0 p0 q0) ∧ w'.cell? ⟨b, o + 3, none⟩ = some (.slice B0 r0 u0))
      ((first | (go_keep; done) | (go_split_ands; (repeat' apply And.intro) <;> (refine (kc5 _ _ (by omega)).trans ?_; assumption))))
      (first
        | ((refine step_append_grows (by rfl) (.tmp 149) (.tmp 154) 71 (by rfl) 72 ti (.agg #[.string ⟨#[]⟩, .int .i64 0]) 2 24 Tryd.underlying71 hti ht0 ht1 ht2 rfl (by decide) (some ⟨b2, o2, none⟩) me me (envVals env) (by rfl) ?c0 ?c1 ?c2 ⟨w.heap.size, 0, none⟩ 1 1 [.string nm, .int .i64 (i : Nat)] (by rfl) rfl ?c3 ?c4 ?c5 ?c6 ?c7 ?_; (case c0 => (first | (intro h; cases h; done) | exact fun _ => ⟨rfl, rfl⟩)); (case c1 => (exact HBL.out)); (case c2 => (intro b9 hb9 j u hu; cases hb9; rw [Addr.add_lit]; exact HCELLA.out j u hu)); (case c3 => (exact World.news_of_block (cs := #[.string nm, .int .i64 (i : Nat)]) (t := 72) (fr := (0, 0)) (by first | exact heap_drew (heap_alloc_new w _) | exact heap_alloc_new w _ | exact heap_alloc_new w.drew _))); (case c4 => (intro u hu; simp at hu; rcases hu with rfl | rfl <;> rfl)); (case c5 => omega); (case c6 => (unfold maxLen; omega)); (case c7 => omega); intro v' w2 hown hgrow; have hbw : Below w.heap.size w w2 := ⟨hgrow.os, hgrow.tape, hgrow.output, by have := hgrow.size; simp at this; omega, fun k hk => (hgrow.block k (by simp; omega) (by simp)).trans (by first | exact heap_drew (heap_old hk rfl) | exact heap_old hk rfl)⟩; have kc5 : ∀ k q, k < w.heap.size → w2.cell? ⟨k, q, none⟩ = _ := (fun k q h => hbw.cell (p := ⟨k, q, none⟩) h); have HOWN := Lib.hid hown; have HB0 := Lib.hid hbw; clear hown hgrow hbw))
        | ((with_reducible refine (HC.out _ _ ?hown ?hbel).mono ?_); (case hown => simpa using HOWN.out); (case hbel => exact HB0.out); rintro e w4 ⟨rfl, hw4⟩; have kc5 : ∀ k q, k < w.heap.size → w4.cell? ⟨k, q, none⟩ = _ := (fun k q h => hw4.cell (p := ⟨k, q, none⟩) h); have HB1 := Lib.hid hw4; clear hw4)
        | fail)
    all_goals go_wp2_with fail
    all_goals exact HN.out _ _ (id ⟨rfl, rfl, rfl, rfl, rfl, rfl, rfl, rfl, rfl, trivial⟩) HB1.out
  · have t8 : (kd == 8) = false := hk8
    clear hk8
    have HC := Lib.hid hc
    have HN := Lib.hid hN
    clear hc hN
    go_region_held3 (fun w' => w'.cell? ⟨wo.heap.size, 0, none⟩ = some (.int .i64 z) ∧ w'.cell? ⟨wo.heap.size, 1, none⟩ = some (.slice Am nm1 cm) ∧ w'.cell? ⟨wo.heap.size, 2, none⟩ = some (.slice Bm nm2 dm) ∧ w'.cell? ⟨wo.heap.size + 1, 0, none⟩ = some (.int .i64 kd) ∧ w'.cell? ⟨wo.heap.size + 1, 1, none⟩ = some (.string nm) ∧ w'.cell? ⟨wo.heap.size + 1, 3, none⟩ = some (.slice (some ⟨b, o, none⟩) 1 c2) ∧ w'.cell? ⟨wo.heap.size + 1 + 1, 0, none⟩ = some (.slice (some ⟨b2, o2, none⟩) me ee) ∧ w'.cell? ⟨b, o, none⟩ = some (.int .i64 k0) ∧ w'.cell? ⟨b, o + 1, none⟩ = some (.string s0) ∧ w'.cell? ⟨b, o + 2, none⟩ = some (.slice A0 p0 q0) ∧ w'.cell? ⟨b, o + 3, none⟩ = some (.slice B0 r0 u0))
      ((first | (go_keep; done) | (go_split_ands; (repeat' apply And.intro) <;> (refine (kc5 _ _ (by omega)).trans ?_; assumption))))
      (first
        | ((refine step_append_grows (by rfl) (.tmp 149) (.tmp 154) 71 (by rfl) 72 ti (.agg #[.string ⟨#[]⟩, .int .i64 0]) 2 24 Tryd.underlying71 hti ht0 ht1 ht2 rfl (by decide) (some ⟨b2, o2, none⟩) me me (envVals env) (by rfl) ?c0 ?c1 ?c2 ⟨w.heap.size, 0, none⟩ 1 1 [.string nm, .int .i64 (i : Nat)] (by rfl) rfl ?c3 ?c4 ?c5 ?c6 ?c7 ?_; (case c0 => (first | (intro h; cases h; done) | exact fun _ => ⟨rfl, rfl⟩)); (case c1 => (exact HBL.out)); (case c2 => (intro b9 hb9 j u hu; cases hb9; rw [Addr.add_lit]; exact HCELLA.out j u hu)); (case c3 => (exact World.news_of_block (cs := #[.string nm, .int .i64 (i : Nat)]) (t := 72) (fr := (0, 0)) (by first | exact heap_drew (heap_alloc_new w _) | exact heap_alloc_new w _ | exact heap_alloc_new w.drew _))); (case c4 => (intro u hu; simp at hu; rcases hu with rfl | rfl <;> rfl)); (case c5 => omega); (case c6 => (unfold maxLen; omega)); (case c7 => omega); intro v' w2 hown hgrow; have hbw : Below w.heap.size w w2 := ⟨hgrow.os, hgrow.tape, hgrow.output, by have := hgrow.size; simp at this; omega, fun k hk => (hgrow.block k (by simp; omega) (by simp)).trans (by first | exact heap_drew (heap_old hk rfl) | exact heap_old hk rfl)⟩; have kc5 : ∀ k q, k < w.heap.size → w2.cell? ⟨k, q, none⟩ = _ := (fun k q h => hbw.cell (p := ⟨k, q, none⟩) h); have HOWN := Lib.hid hown; have HB0 := Lib.hid hbw; clear hown hgrow hbw))
        | ((with_reducible refine (HC.out _ _ ?hown ?hbel).mono ?_); (case hown => simpa using HOWN.out); (case hbel => exact HB0.out); rintro e w4 ⟨rfl, hw4⟩; have kc5 : ∀ k q, k < w.heap.size → w4.cell? ⟨k, q, none⟩ = _ := (fun k q h => hw4.cell (p := ⟨k, q, none⟩) h); have HB1 := Lib.hid hw4; clear hw4)
        | fail)
    all_goals go_wp2_with fail
    all_goals exact HN.out _ _ (id ⟨rfl, rfl, rfl, rfl, rfl, rfl, rfl, rfl, rfl, trivial⟩) HB1.out
  · have t8 : (kd == 8) = true := hk8
    clear hk8
    have HC := Lib.hid hc
    have HN := Lib.hid hN
    clear hc hN
    go_region_held3 (fun w' => w'.cell? ⟨wo.heap.size, 0, none⟩ = some (.int .i64 z) ∧ w'.cell? ⟨wo.heap.size, 1, none⟩ = some (.slice Am nm1 cm) ∧ w'.cell? ⟨wo.heap.size, 2, none⟩ = some (.slice Bm nm2 dm) ∧ w'.cell? ⟨wo.heap.size + 1, 0, none⟩ = some (.int .i64 kd) ∧ w'.cell? ⟨wo.heap.size + 1, 1, none⟩ = some (.string nm) ∧ w'.cell? ⟨wo.heap.size + 1, 3, none⟩ = some (.slice (some ⟨b, o, none⟩) 1 c2) ∧ w'.cell? ⟨wo.heap.size + 1 + 1, 0, none⟩ = some (.slice (some ⟨b2, o2, none⟩) me ee) ∧ w'.cell? ⟨b, o, none⟩ = some (.int .i64 k0) ∧ w'.cell? ⟨b, o + 1, none⟩ = some (.string s0) ∧ w'.cell? ⟨b, o + 2, none⟩ = some (.slice A0 p0 q0) ∧ w'.cell? ⟨b, o + 3, none⟩ = some (.slice B0 r0 u0))
      ((first | (go_keep; done) | (go_split_ands; (repeat' apply And.intro) <;> (refine (kc5 _ _ (by omega)).trans ?_; assumption))))
      (first
        | ((refine step_append_grows (by rfl) (.tmp 149) (.tmp 154) 71 (by rfl) 72 ti (.agg #[.string ⟨#[]⟩, .int .i64 0]) 2 24 Tryd.underlying71 hti ht0 ht1 ht2 rfl (by decide) (some ⟨b2, o2, none⟩) me me (envVals env) (by rfl) ?c0 ?c1 ?c2 ⟨w.heap.size, 0, none⟩ 1 1 [.string nm, .int .i64 (i : Nat)] (by rfl) rfl ?c3 ?c4 ?c5 ?c6 ?c7 ?_; (case c0 => (first | (intro h; cases h; done) | exact fun _ => ⟨rfl, rfl⟩)); (case c1 => (exact HBL.out)); (case c2 => (intro b9 hb9 j u hu; cases hb9; rw [Addr.add_lit]; exact HCELLA.out j u hu)); (case c3 => (exact World.news_of_block (cs := #[.string nm, .int .i64 (i : Nat)]) (t := 72) (fr := (0, 0)) (by first | exact heap_drew (heap_alloc_new w _) | exact heap_alloc_new w _ | exact heap_alloc_new w.drew _))); (case c4 => (intro u hu; simp at hu; rcases hu with rfl | rfl <;> rfl)); (case c5 => omega); (case c6 => (unfold maxLen; omega)); (case c7 => omega); intro v' w2 hown hgrow; have hbw : Below w.heap.size w w2 := ⟨hgrow.os, hgrow.tape, hgrow.output, by have := hgrow.size; simp at this; omega, fun k hk => (hgrow.block k (by simp; omega) (by simp)).trans (by first | exact heap_drew (heap_old hk rfl) | exact heap_old hk rfl)⟩; have kc5 : ∀ k q, k < w.heap.size → w2.cell? ⟨k, q, none⟩ = _ := (fun k q h => hbw.cell (p := ⟨k, q, none⟩) h); have HOWN := Lib.hid hown; have HB0 := Lib.hid hbw; clear hown hgrow hbw))
        | ((with_reducible refine (HC.out _ _ ?hown ?hbel).mono ?_); (case hown => simpa using HOWN.out); (case hbel => exact HB0.out); rintro e w4 ⟨rfl, hw4⟩; have kc5 : ∀ k q, k < w.heap.size → w4.cell? ⟨k, q, none⟩ = _ := (fun k q h => hw4.cell (p := ⟨k, q, none⟩) h); have HB1 := Lib.hid hw4; clear hw4)
        | fail)
    all_goals go_wp2_with fail
    all_goals exact HN.out _ _ (id ⟨rfl, rfl, rfl, rfl, rfl, rfl, rfl, rfl, rfl, trivial⟩) HB1.out
set_option maxRecDepth 1000000 in
theorem vl_ret_wp {R : Ending → World → Prop} {w' : World} {bb : Bool} (hR : R (.returned (.bool bb)) w') : ∀ ac, Frm 168 [(6, .bool bb)] ac → bodyPost Tryd.prog Tryd.f48 R .ret ac w' := by
  refine frm_open ?_
  refine frame_vl ?_
  intros
  rename_i hq
  obtain ⟨-, -, e0q, -⟩ := hq
  obtain rfl := sI e0q
  refine bodyPost_ret (v := .bool bb) (by simp [results, Tryd.results48, go_sem]) rfl ?_
  exact hR
end

section
open Go Go.RowKit
set_option linter.unusedSimpArgs false
set_option linter.unusedVariables false
set_option maxRecDepth 1000000 in
theorem frame_cn {P : Act → Prop} (h : ∀ x0 x1 x2 x3 x4 x5 x6 x7 x8 x9 x10 x11 x12 x13 x14 x15 x16 x17 x18 x19 x20 x21 x22 x23 x24 x25 x26 x27 x28 x29 x30 x31 x32 x33 x34 x35 x36 x37 x38 x39 x40 x41 x42 x43 x44 x45 x46 x47 x48 x49 : Value, P ⟨(x0 :: x1 :: x2 :: x3 :: x4 :: x5 :: x6 :: x7 :: x8 :: x9 :: x10 :: x11 :: x12 :: x13 :: x14 :: x15 :: x16 :: x17 :: x18 :: x19 :: x20 :: x21 :: x22 :: x23 :: x24 :: x25 :: x26 :: x27 :: x28 :: x29 :: x30 :: x31 :: x32 :: x33 :: x34 :: x35 :: x36 :: x37 :: x38 :: x39 :: x40 :: x41 :: x42 :: x43 :: x44 :: x45 :: x46 :: x47 :: x48 :: x49 :: []).toArray, []⟩) : ∀ a : Act, a.tmps.toList.length = 50 → a.defers = [] → P a := by
  rintro ⟨⟨l⟩, d⟩ hs hd
  simp only at hd
  subst hd
  revert l
  show ∀ l : List Value, l.length = 50 → P ⟨⟨l⟩, []⟩
  iterate 50 refine openS (fun _ => ?_)
  refine open0 ?_
  exact h ..
theorem rowGrownF {w w' : World} {base : Nat} {E : TypeId} {size n : Nat} {v : Value} {xs : List Value} (h : w.ownsRow base E size v n xs) (hk : ∀ b, b < w.heap.size → v.ownBlock = some b → w'.heap[b]? = w.heap[b]?) : w'.ownsRow base E size v n xs := by
  obtain ⟨h1, h2⟩ := h
  refine ⟨h1, ?_⟩
  rcases h2 with h2 | ⟨g, cap, cur, e, hg, hh, r⟩
  · exact Or.inl h2
  · exact Or.inr ⟨g, cap, cur, e, hg, (hk g (lt_heap hh) (by rw [e]; rfl)).trans hh, r⟩
/-- A list of strings that is appended to through a pointer: the box bl holds its slice v, a row of the call's own. -/
structure LB (w : World) (bl : Nat) (v : Value) (l : List ByteArray) : Prop where
  box : w.heap[bl]? = some (.cells #[v] 26 (0, 0))
  row : w.ownsRow 0 9 1 v l.length (l.map .string)
  ne : v.ownBlock ≠ some bl
theorem LB.lt {w : World} {bl : Nat} {v : Value} {l : List ByteArray} (h : LB w bl v l) : ∀ b, v.ownBlock = some b → b < w.heap.size := fun b e => (h.row.lt b e).2
theorem LB.keep {w w' : World} {bl : Nat} {v : Value} {l : List ByteArray} (h : LB w bl v l) (h1 : w'.heap[bl]? = w.heap[bl]?) (h2 : ∀ b, b < w.heap.size → v.ownBlock = some b → w'.heap[b]? = w.heap[b]?) : LB w' bl v l := ⟨h1.trans h.box, rowGrownF h.row h2, h.ne⟩
theorem LB.below {w w' : World} {bl : Nat} {v : Value} {l : List ByteArray} (h : LB w bl v l) (hb : Below w.heap.size w w') : LB w' bl v l := h.keep (hb.block _ (lt_heap h.box)) (fun b hb' _ => hb.block b hb')
/-- What stays of memory while the list in box bl (its slice v at the start) grows to v'. -/
structure LK (w w' : World) (bl : Nat) (v v' : Value) : Prop where
  os : w'.os = w.os
  tape : w'.tape = w.tape
  output : w'.output = w.output
  size : w.heap.size ≤ w'.heap.size
  block : ∀ k, k < w.heap.size → k ≠ bl → v.ownBlock ≠ some k → w'.heap[k]? = w.heap[k]?
  at_ : ∀ k, v'.ownBlock = some k → v.ownBlock = some k ∨ w.heap.size ≤ k
theorem LK.refl (w : World) (bl : Nat) (v : Value) : LK w w bl v v := ⟨rfl, rfl, rfl, Nat.le_refl _, fun _ _ _ _ => rfl, fun _ h => Or.inl h⟩
theorem LK.trans {u v w : World} {bl : Nat} {a b c : Value} (h : LK u v bl a b) (k : LK v w bl b c) : LK u w bl a c :=
  ⟨k.os.trans h.os, k.tape.trans h.tape, k.output.trans h.output, Nat.le_trans h.size k.size, fun i h1 h2 h3 => (k.block i (Nat.lt_of_lt_of_le h1 h.size) h2 (fun e => by rcases h.at_ i e with e | e; exact h3 e; omega)).trans (h.block i h1 h2 h3),
    fun i e => by
      rcases k.at_ i e with e | e
      · exact h.at_ i e
      · exact Or.inr (Nat.le_trans h.size e)⟩
theorem LK.below {w w' : World} (bl : Nat) (v : Value) (h : Below w.heap.size w w') : LK w w' bl v v := ⟨h.os, h.tape, h.output, h.size, fun k h1 _ _ => h.block k h1, fun _ h => Or.inl h⟩
/-- In Constants' inner function: its own block, the list. -/
structure KS (wo w : World) (bl : Nat) (v0 : Value) (kd : Int) (nm : ByteArray) (A : Option Addr) (n1 c1 : Nat) (B : Option Addr) (n2 c2 : Nat) (v : Value) (l : List ByteArray) : Prop where
  a : w.heap[wo.heap.size]? = some (.cells #[.int .i64 kd, .string nm, .slice A n1 c1, .slice B n2 c2] 29 (0, 0))
  b : LB w bl v l
  k : LK wo w bl v0 v
  l0 : bl < wo.heap.size
  lv : ∀ k, v0.ownBlock = some k → k < wo.heap.size
theorem KS.av {wo w : World} {bl : Nat} {l : List ByteArray} {v0 v : Value} {kd : Int} {nm : ByteArray} {A B : Option Addr} {n1 c1 n2 c2 : Nat} (h : KS wo w bl v0 kd nm A n1 c1 B n2 c2 v l) : v.ownBlock ≠ some wo.heap.size := fun e => by
  rcases h.k.at_ _ e with e1 | _
  · have := h.lv _ e1; omega
  · have hh := h.a
    rcases h.b.row.2 with ⟨e', _⟩ | ⟨g, cap, cur, e', _, hc, _⟩
    · rw [e'] at e; cases e
    · rw [e'] at e; injection e with e; subst e; rw [hc] at hh; injection hh with hh; injection hh with _ hh _; revert hh; decide
theorem KS.step {wo w w' : World} {bl : Nat} {l l' : List ByteArray} {v0 v v' : Value} {kd : Int} {nm : ByteArray} {A B : Option Addr} {n1 c1 n2 c2 : Nat} (h : KS wo w bl v0 kd nm A n1 c1 B n2 c2 v l) (hb : LB w' bl v' l') (hk : LK w w' bl v v') : KS wo w' bl v0 kd nm A n1 c1 B n2 c2 v' l' :=
  ⟨(hk.block _ (lt_heap h.a) (by have := h.l0; omega) h.av).trans h.a, hb, h.k.trans hk, h.l0, h.lv⟩
theorem KS.below {wo w w' : World} {bl : Nat} {l : List ByteArray} {v0 v : Value} {kd : Int} {nm : ByteArray} {A B : Option Addr} {n1 c1 n2 c2 : Nat} (h : KS wo w bl v0 kd nm A n1 c1 B n2 c2 v l) (hb : Below w.heap.size w w') : KS wo w' bl v0 kd nm A n1 c1 B n2 c2 v l := h.step (h.b.below hb) (LK.below _ _ hb)
theorem KS.old {wo w : World} {bl : Nat} {l : List ByteArray} {v0 v : Value} {kd : Int} {nm : ByteArray} {A B : Option Addr} {n1 c1 n2 c2 : Nat} (h : KS wo w bl v0 kd nm A n1 c1 B n2 c2 v l) {S : Nat → Prop} (hS : ∀ k, S k → k < wo.heap.size ∧ k ≠ bl ∧ v0.ownBlock ≠ some k) : ∀ k, S k → w.heap[k]? = wo.heap[k]? := fun k hk => h.k.block k (hS k hk).1 (hS k hk).2.1 (hS k hk).2.2
theorem infoStr : (Tryd.prog.info? 9).map (fun i => (i.zero, i.size, i.bytes)) = some (some (.string ⟨#[]⟩), 1, 16) := by kernel_rfl
noncomputable def c_cn_r0 : Code := sub [0] (Tryd.f103.body.getD .skip)
set_option maxRecDepth 1000000 in
set_option maxHeartbeats 16000000 in
theorem cn_r0_wp {Q : Exit → Act → World → Prop} {bl bw m e : Nat} {D : Option Addr} {l : List ByteArray} {v : Value} {wo : World} {kd : Int} {nm : ByteArray} {A B : Option Addr} {n1 c1 n2 c2 : Nat} (hb : LB wo bl v l) (hN : ∀ a' w', Frm 50 [(1, (.slice D m e)), (2, .pointer (some ⟨bl, 0, none⟩)), (3, .pointer (some ⟨bw, 0, none⟩)), (4, .pointer (some ⟨wo.heap.size, 0, none⟩))] a' → KS wo w' bl v kd nm A n1 c1 B n2 c2 v l → Q .normal a' w') : ∀ ac, Frm 50 [(0, .agg #[.int .i64 kd, .string nm, .slice A n1 c1, .slice B n2 c2]), (1, (.slice D m e)), (2, .pointer (some ⟨bl, 0, none⟩)), (3, .pointer (some ⟨bw, 0, none⟩))] ac → Code.wp Tryd.prog c_cn_r0 Q ac wo := by
  refine frm_open ?_
  refine frame_cn ?_
  intros
  rename_i hq
  obtain ⟨-, -, e0q, e1q, e2q, e3q, -⟩ := hq
  obtain rfl := sI e0q
  obtain rfl := sI e1q
  obtain rfl := sI e2q
  obtain rfl := sI e3q
  conv => arg 2; whnf
  have hlb := lt_heap hb.box
  have hlv := hb.lt
  have HB := Lib.hid hb
  clear hb
  have HN := Lib.hid hN
  have HLV := Lib.hid hlv
  clear hN hlv
  go_wp2_with fail
  exact HN.out _ _ (id ⟨rfl, rfl, rfl, rfl, rfl, rfl, trivial⟩) ⟨heap_at rfl, HB.out.below ((Below.refl _ _).alloc (Nat.le_refl _) _), LK.below _ _ ((Below.refl _ _).alloc (Nat.le_refl _) _), hlb, HLV.out⟩
noncomputable def c_cn_r1 : Code := sub [1, 0, 0] (Tryd.f103.body.getD .skip)
set_option maxRecDepth 1000000 in
set_option maxHeartbeats 16000000 in
theorem cn_r1_wp {Q : Exit → Act → World → Prop} {bl bw m e : Nat} {D : Option Addr} {l : List ByteArray} {v0 v : Value} {wo w : World} {kd : Int} {nm : ByteArray} {A B : Option Addr} {n1 c1 n2 c2 : Nat} (hs : KS wo w bl v0 kd nm A n1 c1 B n2 c2 v l) (hN : ∀ a', Frm 50 [(1, (.slice D m e)), (2, .pointer (some ⟨bl, 0, none⟩)), (3, .pointer (some ⟨bw, 0, none⟩)), (4, .pointer (some ⟨wo.heap.size, 0, none⟩)), (11, .slice A n1 c1), (12, .int .i64 (n1 : Nat)), (13, .int .i64 (0 : Nat))] a' → Q .normal a' w) : ∀ ac, Frm 50 [(1, (.slice D m e)), (2, .pointer (some ⟨bl, 0, none⟩)), (3, .pointer (some ⟨bw, 0, none⟩)), (4, .pointer (some ⟨wo.heap.size, 0, none⟩))] ac → Code.wp Tryd.prog c_cn_r1 Q ac w := by
  refine frm_open ?_
  refine frame_cn ?_
  intros
  rename_i hq
  obtain ⟨-, -, e0q, e1q, e2q, e3q, -⟩ := hq
  obtain rfl := sI e0q
  obtain rfl := sI e1q
  obtain rfl := sI e2q
  obtain rfl := sI e3q
  conv => arg 2; whnf
  have a0 := cellv hs.a 0 rfl
  have a1 := cellv hs.a 1 rfl
  have a2 := cellv hs.a 2 rfl
  have a3 := cellv hs.a 3 rfl
  have al := lt_heap hs.a
  have HS := Lib.hid hs
  clear hs
  have HN := Lib.hid hN
  clear hN
  go_wp2_with fail
  exact HN.out _ (id ⟨rfl, rfl, rfl, rfl, rfl, rfl, rfl, rfl, rfl, trivial⟩)
noncomputable def c_cn_r2 : Code := sub [1, 0, 1, 0, 0, 0] (Tryd.f103.body.getD .skip)
set_option maxRecDepth 1000000 in
set_option maxHeartbeats 16000000 in
theorem cn_r2_wp {Q : Exit → Act → World → Prop} {i bl bw m e : Nat} {D : Option Addr} {wo w : World} {A : Option Addr} {n1 c1 : Nat} (hN : ∀ a', Frm 50 [(1, (.slice D m e)), (2, .pointer (some ⟨bl, 0, none⟩)), (3, .pointer (some ⟨bw, 0, none⟩)), (4, .pointer (some ⟨wo.heap.size, 0, none⟩)), (11, .slice A n1 c1), (12, .int .i64 (n1 : Nat)), (13, .int .i64 (i : Nat)), (14, .bool (decide (i < n1)))] a' → Q .normal a' w) : ∀ ac, Frm 50 [(1, (.slice D m e)), (2, .pointer (some ⟨bl, 0, none⟩)), (3, .pointer (some ⟨bw, 0, none⟩)), (4, .pointer (some ⟨wo.heap.size, 0, none⟩)), (11, .slice A n1 c1), (12, .int .i64 (n1 : Nat)), (13, .int .i64 (i : Nat))] ac → Code.wp Tryd.prog c_cn_r2 Q ac w := by
  refine frm_open ?_
  refine frame_cn ?_
  intros
  rename_i hq
  obtain ⟨-, -, e0q, e1q, e2q, e3q, e4q, e5q, e6q, -⟩ := hq
  obtain rfl := sI e0q
  obtain rfl := sI e1q
  obtain rfl := sI e2q
  obtain rfl := sI e3q
  obtain rfl := sI e4q
  obtain rfl := sI e5q
  obtain rfl := sI e6q
  conv => arg 2; whnf
  by_cases h : i < n1
  · have t1 : decide ((i : Int) < (n1 : Int)) = true := decide_eq_true (by omega)
    have t2 : decide (i < n1) = true := decide_eq_true h
    rw [t2] at hN
    clear h
    have HN := Lib.hid hN
    clear hN
    go_wp2_with fail
    exact HN.out _ (id ⟨rfl, rfl, rfl, rfl, rfl, rfl, rfl, rfl, rfl, rfl, trivial⟩)
  · have t1 : decide ((i : Int) < (n1 : Int)) = false := decide_eq_false (by omega)
    have t2 : decide (i < n1) = false := decide_eq_false h
    rw [t2] at hN
    clear h
    have HN := Lib.hid hN
    clear hN
    go_wp2_with fail
    exact HN.out _ (id ⟨rfl, rfl, rfl, rfl, rfl, rfl, rfl, rfl, rfl, rfl, trivial⟩)
noncomputable def c_cn_r3 : Code := sub [1, 0, 1, 0, 0, 1, 1, 0, 0, 0] (Tryd.f103.body.getD .skip)
set_option maxRecDepth 1000000 in
set_option maxHeartbeats 16000000 in
theorem cn_r3_wp {Q : Exit → Act → World → Prop} {b o : Nat} {s : ByteArray} {i bl bw m e : Nat} {D : Option Addr} {wo w : World} {n1 c1 : Nat} (hi : i < n1) (hc : w.cell? ⟨b, o + i, none⟩ = some (.string s)) (hbl : b < w.heap.size) (hN : ∀ a', Frm 50 [(1, (.slice D m e)), (2, .pointer (some ⟨bl, 0, none⟩)), (3, .pointer (some ⟨bw, 0, none⟩)), (4, .pointer (some ⟨wo.heap.size, 0, none⟩)), (11, .slice (some ⟨b, o, none⟩) n1 c1), (12, .int .i64 (n1 : Nat)), (13, .int .i64 (i : Nat)), (7, .string s)] a' → Q .normal a' w) : ∀ ac, Frm 50 [(1, (.slice D m e)), (2, .pointer (some ⟨bl, 0, none⟩)), (3, .pointer (some ⟨bw, 0, none⟩)), (4, .pointer (some ⟨wo.heap.size, 0, none⟩)), (11, .slice (some ⟨b, o, none⟩) n1 c1), (12, .int .i64 (n1 : Nat)), (13, .int .i64 (i : Nat))] ac → Code.wp Tryd.prog c_cn_r3 Q ac w := by
  refine frm_open ?_
  refine frame_cn ?_
  intros
  rename_i hq
  obtain ⟨-, -, e0q, e1q, e2q, e3q, e4q, e5q, e6q, -⟩ := hq
  obtain rfl := sI e0q
  obtain rfl := sI e1q
  obtain rfl := sI e2q
  obtain rfl := sI e3q
  obtain rfl := sI e4q
  obtain rfl := sI e5q
  obtain rfl := sI e6q
  conv => arg 2; whnf
  have q0 : (0 : Int) ≤ (i : Int) := by omega
  have q1 : (i : Int) < (n1 : Int) := by omega
  have HN := Lib.hid hN
  clear hN
  go_wp2_with fail
  exact HN.out _ (id ⟨rfl, rfl, rfl, rfl, rfl, rfl, rfl, rfl, rfl, rfl, trivial⟩)
noncomputable def c_cn_r4 : Code := sub [1, 0, 1, 0, 0, 1, 1, 0, 0, 1, 0] (Tryd.f103.body.getD .skip)
set_option maxRecDepth 1000000 in
set_option maxHeartbeats 16000000 in
theorem cn_r4_wp {Q : Exit → Act → World → Prop} {bb : Bool} {s : ByteArray} {i bl bw m e : Nat} {D : Option Addr} {wo w : World} {A : Option Addr} {n1 c1 : Nat} (hc : Calls Tryd.prog 104 #[(.slice D m e), .string s] w fun e w' => e = .returned (.bool bb) ∧ w' = w) (hN : ∀ a', Frm 50 [(1, (.slice D m e)), (2, .pointer (some ⟨bl, 0, none⟩)), (3, .pointer (some ⟨bw, 0, none⟩)), (4, .pointer (some ⟨wo.heap.size, 0, none⟩)), (11, .slice A n1 c1), (12, .int .i64 (n1 : Nat)), (13, .int .i64 (i : Nat)), (7, .string s), (20, .bool (!bb))] a' → Q .normal a' w) : ∀ ac, Frm 50 [(1, (.slice D m e)), (2, .pointer (some ⟨bl, 0, none⟩)), (3, .pointer (some ⟨bw, 0, none⟩)), (4, .pointer (some ⟨wo.heap.size, 0, none⟩)), (11, .slice A n1 c1), (12, .int .i64 (n1 : Nat)), (13, .int .i64 (i : Nat)), (7, .string s)] ac → Code.wp Tryd.prog c_cn_r4 Q ac w := by
  refine frm_open ?_
  refine frame_cn ?_
  intros
  rename_i hq
  obtain ⟨-, -, e0q, e1q, e2q, e3q, e4q, e5q, e6q, e7q, -⟩ := hq
  obtain rfl := sI e0q
  obtain rfl := sI e1q
  obtain rfl := sI e2q
  obtain rfl := sI e3q
  obtain rfl := sI e4q
  obtain rfl := sI e5q
  obtain rfl := sI e6q
  obtain rfl := sI e7q
  conv => arg 2; whnf
  have HN := Lib.hid hN
  have HC := Lib.hid hc
  clear hN hc
  go_wp2_with fail
  (with_reducible refine HC.out.mono ?_)
  rintro e w1 ⟨rfl, rfl⟩
  go_wp2_with fail
  exact HN.out _ (id ⟨rfl, rfl, rfl, rfl, rfl, rfl, rfl, rfl, rfl, rfl, rfl, trivial⟩)
theorem KS.appended {wo w w2 : World} {bl gg cap : Nat} {l : List ByteArray} {v0 v : Value} {s : ByteArray} {o : Obj} {kd : Int} {nm : ByteArray} {A B : Option Addr} {n1 c1 n2 c2 : Nat} (h : KS wo w bl v0 kd nm A n1 c1 B n2 c2 v l) (hown : w2.ownsRow 0 9 1 (.slice (some ⟨gg, 0, none⟩) (l.length + 1) cap) (l.length + 1) (l.map .string ++ [.string s])) (hg : (w.alloc o).grownBy w2 v.ownBlock) (hat : v.ownBlock = some gg ∨ gg = w.heap.size + 1) :
    w2.heap[bl]? = some (.cells #[v] 26 (0, 0)) ∧ KS wo (w2.setCell ⟨bl, 0, none⟩ (.slice (some ⟨gg, 0, none⟩) (l.length + 1) cap)) bl v0 kd nm A n1 c1 B n2 c2 (.slice (some ⟨gg, 0, none⟩) (l.length + 1) cap) (l ++ [s]) := by
  have hbl := lt_heap h.b.box
  have hk : ∀ k, k < w.heap.size → v.ownBlock ≠ some k → w2.heap[k]? = w.heap[k]? := fun k h1 h2 => (hg.block k (by simp; omega) (fun e => h2 e.symm)).trans (heap_old h1 rfl)
  have hb2 := (hk bl hbl h.b.ne).trans h.b.box
  have hgb : gg ≠ bl := by
    rintro rfl
    rcases hat with e | e
    · exact h.b.ne e
    · omega
  have hsz : w.heap.size + 1 ≤ w2.heap.size := by have := hg.size; simpa using this
  refine ⟨hb2, h.step ⟨by simpa using heap_set hb2 0 (.slice (some ⟨gg, 0, none⟩) (l.length + 1) cap), ?_, fun e => hgb (by injection e with e)⟩ ⟨hg.os, hg.tape, hg.output, by rw [size_set]; omega, fun k h1 h2 h3 => heap_far _ h2 (hk k h1 h3), fun k e => ?_⟩⟩
  · have h1 : (w2.setCell ⟨bl, 0, none⟩ (.slice (some ⟨gg, 0, none⟩) (l.length + 1) cap)).ownsRow 0 9 1 (.slice (some ⟨gg, 0, none⟩) (l.length + 1) cap) (l.length + 1) (l.map .string ++ [.string s]) := rowGrownF hown (fun b _ e => heap_far _ (by rintro rfl; injection e with e; exact hgb e) rfl)
    simpa using h1
  · have e2 : gg = k := Option.some.inj e
    subst e2
    rcases hat with e | e
    · exact Or.inl e
    · exact Or.inr (by omega)
noncomputable def c_cn_r5 : Code := sub [1, 0, 1, 0, 0, 1, 1, 0, 0, 1, 1, 0] (Tryd.f103.body.getD .skip)
set_option maxRecDepth 1000000 in
set_option maxHeartbeats 16000000 in
theorem cn_r5_wp {Q : Exit → Act → World → Prop} {s : ByteArray} {i : Nat} {bl bw m e : Nat} {D : Option Addr} {l : List ByteArray} {v0 v : Value} {wo w : World} {kd : Int} {nm : ByteArray} {A B : Option Addr} {n1 c1 n2 c2 : Nat} (hl : l.length ≤ 1000000) (hs : KS wo w bl v0 kd nm A n1 c1 B n2 c2 v l) (hN : ∀ v' a' w', Frm 50 [(1, (.slice D m e)), (2, .pointer (some ⟨bl, 0, none⟩)), (3, .pointer (some ⟨bw, 0, none⟩)), (4, .pointer (some ⟨wo.heap.size, 0, none⟩)), (11, .slice A n1 c1), (12, .int .i64 (n1 : Nat)), (13, .int .i64 (i : Nat))] a' → KS wo w' bl v0 kd nm A n1 c1 B n2 c2 v' (l ++ [s]) → Q .normal a' w') : ∀ ac, Frm 50 [(1, (.slice D m e)), (2, .pointer (some ⟨bl, 0, none⟩)), (3, .pointer (some ⟨bw, 0, none⟩)), (4, .pointer (some ⟨wo.heap.size, 0, none⟩)), (11, .slice A n1 c1), (12, .int .i64 (n1 : Nat)), (13, .int .i64 (i : Nat)), (7, .string s)] ac → Code.wp Tryd.prog c_cn_r5 Q ac w := by
  refine frm_open ?_
  refine frame_cn ?_
  intros
  rename_i hq
  obtain ⟨-, -, e0q, e1q, e2q, e3q, e4q, e5q, e6q, e7q, -⟩ := hq
  obtain rfl := sI e0q
  obtain rfl := sI e1q
  obtain rfl := sI e2q
  obtain rfl := sI e3q
  obtain rfl := sI e4q
  obtain rfl := sI e5q
  obtain rfl := sI e6q
  obtain rfl := sI e7q
  conv => arg 2; whnf
  obtain ⟨ts, hts, ht0, ht1, ht2⟩ := info_parts infoStr
  have b0 := cellv hs.b.box 0 rfl
  have bf := free_heap hs.b.box 0
  have blt := lt_heap hs.b.box
  obtain ⟨A9, c9, rfl⟩ : ∃ A c, v = .slice A l.length c := by
    rcases hs.b.row.2 with ⟨e, e0⟩ | ⟨g, cap, cur, e, _⟩
    · exact ⟨none, 0, by rw [e, e0]⟩
    · exact ⟨_, _, e⟩
  have hrow := hs.b.row
  have HS := Lib.hid hs
  clear hs
  have HN := Lib.hid hN
  have HROW := Lib.hid hrow
  clear hN hrow
  go_wp2_with (at_builtin; refine wpList_append_lies (w.alloc (.cells #[.string s] 9)) ?h1 (.tmp 21) (.tmp 23) 26 ?h2 0 9 ts (.string ⟨#[]⟩) 1 16 ?h3 hts ht0 ht1 ht2 ?h4 ?h5 (.slice A9 l.length c9) l.length (l.map .string) ?h6 ?h7 ⟨w.heap.size, 0, none⟩ 1 1 [.string s] ?h8 ?h9 ?h10 ?h11 ?h12 ?h13 ?h14 ?h15 (w.heap.size + 1) ?h16 ?_)
  try (case h1 => rfl)
  try (case h2 => rfl)
  try (case h3 => exact Tryd.underlying26)
  try (case h4 => rfl)
  try (case h5 => omega)
  try (case h6 => rfl)
  try (case h7 => exact HROW.out.alloc _)
  try (case h8 => rfl)
  try (case h9 => rfl)
  try (case h10 => exact World.news_of_block (cs := #[.string s]) (t := 9) (fr := (0, 0)) (heap_alloc_new w _))
  try (case h11 => simp [Value.oneCell'])
  try (case h12 => omega)
  try (case h13 => first | (simp [maxLen]; omega) | (unfold maxLen; omega))
  try (case h14 => omega)
  try (case h15 => first | omega | (simp; omega))
  try (case h16 => first | rfl | simp)
  intro gg cap w6 hown3 hgrow hat hlt
  have hap := HS.out.appended hown3 hgrow hat
  have HAP := Lib.hid hap
  have d0 := cellv hap.1 0 rfl
  have df := free_heap hap.1 0
  have dl := lt_heap hap.1
  clear hown3 hgrow hat hap b0 bf blt hlt
  go_wp2_with fail
  exact HN.out _ _ _ (id ⟨rfl, rfl, rfl, rfl, rfl, rfl, rfl, rfl, rfl, trivial⟩) HAP.out.2
noncomputable def c_cn_r6 : Code := sub [1, 0, 1, 0, 0, 1, 1, 1] (Tryd.f103.body.getD .skip)
set_option maxRecDepth 1000000 in
set_option maxHeartbeats 16000000 in
theorem cn_r6_wp {Q : Exit → Act → World → Prop} {i bl bw m e : Nat} {D : Option Addr} {wo w : World} {A : Option Addr} {n1 c1 : Nat} (hi : i < n1) (hlim : n1 ≤ maxLen) (hN : ∀ a', Frm 50 [(1, (.slice D m e)), (2, .pointer (some ⟨bl, 0, none⟩)), (3, .pointer (some ⟨bw, 0, none⟩)), (4, .pointer (some ⟨wo.heap.size, 0, none⟩)), (11, .slice A n1 c1), (12, .int .i64 (n1 : Nat)), (13, .int .i64 (i + 1 : Nat))] a' → Q .normal a' w) : ∀ ac, Frm 50 [(1, (.slice D m e)), (2, .pointer (some ⟨bl, 0, none⟩)), (3, .pointer (some ⟨bw, 0, none⟩)), (4, .pointer (some ⟨wo.heap.size, 0, none⟩)), (11, .slice A n1 c1), (12, .int .i64 (n1 : Nat)), (13, .int .i64 (i : Nat))] ac → Code.wp Tryd.prog c_cn_r6 Q ac w := by
  refine frm_open ?_
  refine frame_cn ?_
  intros
  rename_i hq
  obtain ⟨-, -, e0q, e1q, e2q, e3q, e4q, e5q, e6q, -⟩ := hq
  obtain rfl := sI e0q
  obtain rfl := sI e1q
  obtain rfl := sI e2q
  obtain rfl := sI e3q
  obtain rfl := sI e4q
  obtain rfl := sI e5q
  obtain rfl := sI e6q
  conv => arg 2; whnf
  have hi4 : (i : Int) ≤ 9223372036854775806 := by unfold maxLen at hlim; omega
  have HN := Lib.hid hN
  clear hN
  go_wp2_with fail
  exact HN.out _ (id ⟨rfl, rfl, rfl, rfl, rfl, rfl, rfl, rfl, rfl, trivial⟩)
noncomputable def c_cn_r7 : Code := sub [1, 1, 0, 0] (Tryd.f103.body.getD .skip)
set_option maxRecDepth 1000000 in
set_option maxHeartbeats 16000000 in
theorem cn_r7_wp {Q : Exit → Act → World → Prop} {bl bw m e : Nat} {D : Option Addr} {l : List ByteArray} {v0 v : Value} {wo w : World} {kd : Int} {nm : ByteArray} {A B : Option Addr} {n1 c1 n2 c2 : Nat} (hs : KS wo w bl v0 kd nm A n1 c1 B n2 c2 v l) (hN : ∀ a' w', Frm 50 [(1, (.slice D m e)), (2, .pointer (some ⟨bl, 0, none⟩)), (3, .pointer (some ⟨bw, 0, none⟩)), (4, .pointer (some ⟨wo.heap.size, 0, none⟩)), (27, .bool (isQu kd))] a' → KS wo w' bl v0 kd nm A n1 c1 B n2 c2 v l → Below w.heap.size w w' → Q .normal a' w') : ∀ ac, Frm 50 [(1, (.slice D m e)), (2, .pointer (some ⟨bl, 0, none⟩)), (3, .pointer (some ⟨bw, 0, none⟩)), (4, .pointer (some ⟨wo.heap.size, 0, none⟩))] ac → Code.wp Tryd.prog c_cn_r7 Q ac w := by
  refine frm_open ?_
  refine frame_cn ?_
  intros
  rename_i hq
  obtain ⟨-, -, e0q, e1q, e2q, e3q, -⟩ := hq
  obtain rfl := sI e0q
  obtain rfl := sI e1q
  obtain rfl := sI e2q
  obtain rfl := sI e3q
  conv => arg 2; whnf
  have hq := quant_any kd nm A B n1 c1 n2 c2 w
  have a0 := cellv hs.a 0 rfl
  have a1 := cellv hs.a 1 rfl
  have a2 := cellv hs.a 2 rfl
  have a3 := cellv hs.a 3 rfl
  have al := lt_heap hs.a
  have HS := Lib.hid hs
  clear hs
  have HN := Lib.hid hN
  have HQ := Lib.hid hq
  clear hN hq
  go_wp2_with fail
  (with_reducible refine HQ.out.mono ?_)
  rintro e w1 ⟨rfl, hb1⟩
  have hs := HS.out.below hb1
  have HS1 := Lib.hid hs
  have HB1 := Lib.hid hb1
  clear hb1 hs
  go_wp2_with fail
  exact HN.out _ _ (id ⟨rfl, rfl, rfl, rfl, rfl, rfl, rfl, trivial⟩) HS1.out HB1.out
noncomputable def c_cn_r8 : Code := sub [1, 1, 0, 1, 0] (Tryd.f103.body.getD .skip)
set_option maxRecDepth 1000000 in
set_option maxHeartbeats 16000000 in
theorem cn_r8_wp {K : Act → World → Prop} {b o : Nat} {bd : List ByteArray} {bl bw m e : Nat} {l : List ByteArray} {v0 v : Value} {wo w : World} {kd : Int} {nm : ByteArray} {A B : Option Addr} {n1 c1 n2 c2 : Nat} (hbl : bd.length = m) (hm : m ≤ 1000000) (hme : m ≤ e) (hbw : b < w.heap.size) (hcell : ∀ j u, (bd.map Value.string)[j]? = some u → w.cell? ⟨b, o + j, none⟩ = some u) (hs : KS wo w bl v0 kd nm A n1 c1 B n2 c2 v l) (hN : ∀ v' a' w', Frm 50 [(1, v'), (2, .pointer (some ⟨bl, 0, none⟩)), (3, .pointer (some ⟨bw, 0, none⟩)), (4, .pointer (some ⟨wo.heap.size, 0, none⟩))] a' → w'.ownsRow (w.heap.size + 1) 9 1 v' (m + 1) (bd.map .string ++ [.string nm]) → Below w.heap.size w w' → K a' w') : ∀ ac, Frm 50 [(1, (.slice (some ⟨b, o, none⟩) m e)), (2, .pointer (some ⟨bl, 0, none⟩)), (3, .pointer (some ⟨bw, 0, none⟩)), (4, .pointer (some ⟨wo.heap.size, 0, none⟩))] ac → Code.wp Tryd.prog c_cn_r8 (Exit.then K (fun _ _ _ => False)) ac w := by
  refine frm_open ?_
  refine frame_cn ?_
  intros
  rename_i hq
  obtain ⟨-, -, e0q, e1q, e2q, e3q, -⟩ := hq
  obtain rfl := sI e0q
  obtain rfl := sI e1q
  obtain rfl := sI e2q
  obtain rfl := sI e3q
  conv => arg 2; whnf
  obtain ⟨ts, hts, ht0, ht1, ht2⟩ := info_parts infoStr
  have q1 : (m : Int) ≤ (e : Int) := by omega
  have hcA : ∀ j u, (bd.map Value.string)[j]? = some u → (w.alloc (.cells #[.string nm] 9)).cell? ⟨b, o + j, none⟩ = some u := fun j u hu => (cell_keep (heap_old hbw rfl) _).trans (hcell j u hu)
  have HCELLA := Lib.hid hcA
  clear hcA hcell
  have hm4 : m ≤ 1000000 := hm
  have a0 := cellv hs.a 0 rfl
  have a1 := cellv hs.a 1 rfl
  have a2 := cellv hs.a 2 rfl
  have a3 := cellv hs.a 3 rfl
  have al := lt_heap hs.a
  have HS := Lib.hid hs
  clear hs
  go_region_law ((refine step_append_grows (by rfl) (.tmp 33) (.tmp 36) 26 (by rfl) 9 ts (.string ⟨#[]⟩) 1 16 Tryd.underlying26 hts ht0 ht1 ht2 rfl (by decide) (some ⟨b, o, none⟩) m m (bd.map .string) (by rfl) ?c0 ?c1 ?c2 ⟨w.heap.size, 0, none⟩ 1 1 [.string nm] (by rfl) rfl ?c3 ?c4 ?c5 ?c6 ?c7 ?_; (case c0 => (first | (intro h; cases h; done) | exact fun _ => ⟨rfl, rfl⟩)); (case c1 => (simp [hbl])); (case c2 => (intro b9 hb9 j u hu; cases hb9; rw [Addr.add_lit]; exact HCELLA.out j u hu)); (case c3 => (exact World.news_of_block (cs := #[.string nm]) (t := 9) (fr := (0, 0)) (by first | exact heap_drew (heap_alloc_new w _) | exact heap_alloc_new w _ | exact heap_alloc_new w.drew _))); (case c4 => (intro u hu; simp at hu; subst hu; rfl)); (case c5 => omega); (case c6 => (unfold maxLen; omega)); (case c7 => omega); intro v' w2 hown hgrow; have HOWN := Lib.hid hown; have HGROW := Lib.hid hgrow; clear hown hgrow))
  all_goals go_wp2_with fail
  all_goals exact hN _ _ _ (id ⟨rfl, rfl, rfl, rfl, rfl, rfl, trivial⟩) (by simpa using HOWN.out) (by first | exact ⟨HGROW.out.os, HGROW.out.tape, HGROW.out.output, by have := HGROW.out.size; simp at this; omega, fun k hk => (HGROW.out.block k (by simp; omega) (by simp)).trans (by first | exact heap_drew (heap_old hk rfl) | exact heap_old hk rfl)⟩)
noncomputable def c_cn_r8n : Code := sub [1, 1, 0, 1, 0] (Tryd.f103.body.getD .skip)
set_option maxRecDepth 1000000 in
set_option maxHeartbeats 16000000 in
theorem cn_r8n_wp {K : Act → World → Prop} {bd : List ByteArray} {bl bw e : Nat} {l : List ByteArray} {v0 v : Value} {wo w : World} {kd : Int} {nm : ByteArray} {A B : Option Addr} {n1 c1 n2 c2 : Nat} (hbl : bd = []) (hs : KS wo w bl v0 kd nm A n1 c1 B n2 c2 v l) (hN : ∀ v' a' w', Frm 50 [(1, v'), (2, .pointer (some ⟨bl, 0, none⟩)), (3, .pointer (some ⟨bw, 0, none⟩)), (4, .pointer (some ⟨wo.heap.size, 0, none⟩))] a' → w'.ownsRow (w.heap.size + 1) 9 1 v' (0 + 1) (bd.map .string ++ [.string nm]) → Below w.heap.size w w' → K a' w') : ∀ ac, Frm 50 [(1, (.slice none 0 e)), (2, .pointer (some ⟨bl, 0, none⟩)), (3, .pointer (some ⟨bw, 0, none⟩)), (4, .pointer (some ⟨wo.heap.size, 0, none⟩))] ac → Code.wp Tryd.prog c_cn_r8n (Exit.then K (fun _ _ _ => False)) ac w := by
  refine frm_open ?_
  refine frame_cn ?_
  intros
  rename_i hq
  obtain ⟨-, -, e0q, e1q, e2q, e3q, -⟩ := hq
  obtain rfl := sI e0q
  obtain rfl := sI e1q
  obtain rfl := sI e2q
  obtain rfl := sI e3q
  conv => arg 2; whnf
  obtain ⟨ts, hts, ht0, ht1, ht2⟩ := info_parts infoStr
  subst hbl
  have a0 := cellv hs.a 0 rfl
  have a1 := cellv hs.a 1 rfl
  have a2 := cellv hs.a 2 rfl
  have a3 := cellv hs.a 3 rfl
  have al := lt_heap hs.a
  have HS := Lib.hid hs
  clear hs
  go_region_law ((refine step_append_grows (by rfl) (.tmp 33) (.tmp 36) 26 (by rfl) 9 ts (.string ⟨#[]⟩) 1 16 Tryd.underlying26 hts ht0 ht1 ht2 rfl (by decide) none 0 0 [] (by rfl) ?c0 ?c1 ?c2 ⟨w.heap.size, 0, none⟩ 1 1 [.string nm] (by rfl) rfl ?c3 ?c4 ?c5 ?c6 ?c7 ?_; (case c0 => (first | (intro h; cases h; done) | exact fun _ => ⟨rfl, rfl⟩)); (case c1 => (simp)); (case c2 => (intro b9 hb9; cases hb9)); (case c3 => (exact World.news_of_block (cs := #[.string nm]) (t := 9) (fr := (0, 0)) (by first | exact heap_drew (heap_alloc_new w _) | exact heap_alloc_new w _ | exact heap_alloc_new w.drew _))); (case c4 => (intro u hu; simp at hu; subst hu; rfl)); (case c5 => omega); (case c6 => (unfold maxLen; omega)); (case c7 => omega); intro v' w2 hown hgrow; have HOWN := Lib.hid hown; have HGROW := Lib.hid hgrow; clear hown hgrow))
  all_goals go_wp2_with fail
  all_goals exact hN _ _ _ (id ⟨rfl, rfl, rfl, rfl, rfl, rfl, trivial⟩) (by simpa using HOWN.out) (by first | exact ⟨HGROW.out.os, HGROW.out.tape, HGROW.out.output, by have := HGROW.out.size; simp at this; omega, fun k hk => (HGROW.out.block k (by simp; omega) (by simp)).trans (by first | exact heap_drew (heap_old hk rfl) | exact heap_old hk rfl)⟩)
noncomputable def c_cn_r9 : Code := sub [1, 1, 1, 0] (Tryd.f103.body.getD .skip)
set_option maxRecDepth 1000000 in
set_option maxHeartbeats 16000000 in
theorem cn_r9_wp {Q : Exit → Act → World → Prop} {bl bw m e : Nat} {D : Option Addr} {l : List ByteArray} {v0 v : Value} {wo w : World} {kd : Int} {nm : ByteArray} {A B : Option Addr} {n1 c1 n2 c2 : Nat} (hs : KS wo w bl v0 kd nm A n1 c1 B n2 c2 v l) (hN : ∀ a', Frm 50 [(1, (.slice D m e)), (2, .pointer (some ⟨bl, 0, none⟩)), (3, .pointer (some ⟨bw, 0, none⟩)), (4, .pointer (some ⟨wo.heap.size, 0, none⟩)), (39, .slice B n2 c2), (40, .int .i64 (n2 : Nat)), (41, .int .i64 (0 : Nat))] a' → Q .normal a' w) : ∀ ac, Frm 50 [(1, (.slice D m e)), (2, .pointer (some ⟨bl, 0, none⟩)), (3, .pointer (some ⟨bw, 0, none⟩)), (4, .pointer (some ⟨wo.heap.size, 0, none⟩))] ac → Code.wp Tryd.prog c_cn_r9 Q ac w := by
  refine frm_open ?_
  refine frame_cn ?_
  intros
  rename_i hq
  obtain ⟨-, -, e0q, e1q, e2q, e3q, -⟩ := hq
  obtain rfl := sI e0q
  obtain rfl := sI e1q
  obtain rfl := sI e2q
  obtain rfl := sI e3q
  conv => arg 2; whnf
  have a0 := cellv hs.a 0 rfl
  have a1 := cellv hs.a 1 rfl
  have a2 := cellv hs.a 2 rfl
  have a3 := cellv hs.a 3 rfl
  have al := lt_heap hs.a
  have HS := Lib.hid hs
  clear hs
  have HN := Lib.hid hN
  clear hN
  go_wp2_with fail
  exact HN.out _ (id ⟨rfl, rfl, rfl, rfl, rfl, rfl, rfl, rfl, rfl, trivial⟩)
noncomputable def c_cn_r10 : Code := sub [1, 1, 1, 1, 0, 0, 0] (Tryd.f103.body.getD .skip)
set_option maxRecDepth 1000000 in
set_option maxHeartbeats 16000000 in
theorem cn_r10_wp {Q : Exit → Act → World → Prop} {i bl bw m e : Nat} {D : Option Addr} {wo w : World} {B : Option Addr} {n2 c2 : Nat} (hN : ∀ a', Frm 50 [(1, (.slice D m e)), (2, .pointer (some ⟨bl, 0, none⟩)), (3, .pointer (some ⟨bw, 0, none⟩)), (4, .pointer (some ⟨wo.heap.size, 0, none⟩)), (39, .slice B n2 c2), (40, .int .i64 (n2 : Nat)), (41, .int .i64 (i : Nat)), (42, .bool (decide (i < n2)))] a' → Q .normal a' w) : ∀ ac, Frm 50 [(1, (.slice D m e)), (2, .pointer (some ⟨bl, 0, none⟩)), (3, .pointer (some ⟨bw, 0, none⟩)), (4, .pointer (some ⟨wo.heap.size, 0, none⟩)), (39, .slice B n2 c2), (40, .int .i64 (n2 : Nat)), (41, .int .i64 (i : Nat))] ac → Code.wp Tryd.prog c_cn_r10 Q ac w := by
  refine frm_open ?_
  refine frame_cn ?_
  intros
  rename_i hq
  obtain ⟨-, -, e0q, e1q, e2q, e3q, e4q, e5q, e6q, -⟩ := hq
  obtain rfl := sI e0q
  obtain rfl := sI e1q
  obtain rfl := sI e2q
  obtain rfl := sI e3q
  obtain rfl := sI e4q
  obtain rfl := sI e5q
  obtain rfl := sI e6q
  conv => arg 2; whnf
  by_cases h : i < n2
  · have t1 : decide ((i : Int) < (n2 : Int)) = true := decide_eq_true (by omega)
    have t2 : decide (i < n2) = true := decide_eq_true h
    rw [t2] at hN
    clear h
    have HN := Lib.hid hN
    clear hN
    go_wp2_with fail
    exact HN.out _ (id ⟨rfl, rfl, rfl, rfl, rfl, rfl, rfl, rfl, rfl, rfl, trivial⟩)
  · have t1 : decide ((i : Int) < (n2 : Int)) = false := decide_eq_false (by omega)
    have t2 : decide (i < n2) = false := decide_eq_false h
    rw [t2] at hN
    clear h
    have HN := Lib.hid hN
    clear hN
    go_wp2_with fail
    exact HN.out _ (id ⟨rfl, rfl, rfl, rfl, rfl, rfl, rfl, rfl, rfl, rfl, trivial⟩)
noncomputable def c_cn_r11 : Code := sub [1, 1, 1, 1, 0, 0, 1, 1, 0, 0, 0] (Tryd.f103.body.getD .skip)
set_option maxRecDepth 1000000 in
set_option maxHeartbeats 16000000 in
theorem cn_r11_wp {Q : Exit → Act → World → Prop} {b o : Nat} {i bl bw m e : Nat} {D : Option Addr} {wo w : World} {ke : Int} {ne : ByteArray} {Ae Be : Option Addr} {n3 c3 n4 c4 : Nat} {n2 c2 : Nat} (hi : i < n2) (h0 : w.cell? ⟨b, o + i * 4, none⟩ = some (.int .i64 ke)) (h1 : w.cell? ⟨b, o + i * 4 + 1, none⟩ = some (.string ne)) (h2 : w.cell? ⟨b, o + i * 4 + 2, none⟩ = some (.slice Ae n3 c3)) (h3 : w.cell? ⟨b, o + i * 4 + 3, none⟩ = some (.slice Be n4 c4)) (hbl : b < w.heap.size) (hN : ∀ a', Frm 50 [(1, (.slice D m e)), (2, .pointer (some ⟨bl, 0, none⟩)), (3, .pointer (some ⟨bw, 0, none⟩)), (4, .pointer (some ⟨wo.heap.size, 0, none⟩)), (39, .slice (some ⟨b, o, none⟩) n2 c2), (40, .int .i64 (n2 : Nat)), (41, .int .i64 (i : Nat)), (9, .pointer (some ⟨w.heap.size, 0, none⟩))] a' → Q .normal a' (w.alloc (.cells #[.int .i64 ke, .string ne, .slice Ae n3 c3, .slice Be n4 c4] 29))) : ∀ ac, Frm 50 [(1, (.slice D m e)), (2, .pointer (some ⟨bl, 0, none⟩)), (3, .pointer (some ⟨bw, 0, none⟩)), (4, .pointer (some ⟨wo.heap.size, 0, none⟩)), (39, .slice (some ⟨b, o, none⟩) n2 c2), (40, .int .i64 (n2 : Nat)), (41, .int .i64 (i : Nat))] ac → Code.wp Tryd.prog c_cn_r11 Q ac w := by
  refine frm_open ?_
  refine frame_cn ?_
  intros
  rename_i hq
  obtain ⟨-, -, e0q, e1q, e2q, e3q, e4q, e5q, e6q, -⟩ := hq
  obtain rfl := sI e0q
  obtain rfl := sI e1q
  obtain rfl := sI e2q
  obtain rfl := sI e3q
  obtain rfl := sI e4q
  obtain rfl := sI e5q
  obtain rfl := sI e6q
  conv => arg 2; whnf
  have q0 : (0 : Int) ≤ (i : Int) := by omega
  have q1 : (i : Int) < (n2 : Int) := by omega
  have HN := Lib.hid hN
  clear hN
  go_wp2_with fail
  exact HN.out _ (id ⟨rfl, rfl, rfl, rfl, rfl, rfl, rfl, rfl, rfl, rfl, trivial⟩)
noncomputable def c_cn_r12 : Code := sub [1, 1, 1, 1, 0, 0, 1, 1, 0, 0, 1] (Tryd.f103.body.getD .skip)
set_option maxRecDepth 1000000 in
set_option maxHeartbeats 16000000 in
theorem cn_r12_wp {Q : Exit → Act → World → Prop} {i ge bl bw m e : Nat} {D : Option Addr} {wo w : World} {PP : World → Prop} {ke : Int} {ne : ByteArray} {Ae Be : Option Addr} {n3 c3 n4 c4 : Nat} {B : Option Addr} {n2 c2 : Nat} (hf : w.heap[bw]? = some (.cells #[.func (Fn.func 103) #[] #[.pointer (some ⟨bl, 0, none⟩), .pointer (some ⟨bw, 0, none⟩)]] 111 (0, 0))) (hge : w.heap[ge]? = some (.cells #[.int .i64 ke, .string ne, .slice Ae n3 c3, .slice Be n4 c4] 29 (0, 0))) (hcall : Calls Tryd.prog 103 #[.agg #[.int .i64 ke, .string ne, .slice Ae n3 c3, .slice Be n4 c4], (.slice D m e), .pointer (some ⟨bl, 0, none⟩), .pointer (some ⟨bw, 0, none⟩)] w fun e w' => e = .returned (.tuple #[]) ∧ PP w') (hN : ∀ a' w', Frm 50 [(1, (.slice D m e)), (2, .pointer (some ⟨bl, 0, none⟩)), (3, .pointer (some ⟨bw, 0, none⟩)), (4, .pointer (some ⟨wo.heap.size, 0, none⟩)), (39, .slice B n2 c2), (40, .int .i64 (n2 : Nat)), (41, .int .i64 (i : Nat))] a' → PP w' → Q .normal a' w') : ∀ ac, Frm 50 [(1, (.slice D m e)), (2, .pointer (some ⟨bl, 0, none⟩)), (3, .pointer (some ⟨bw, 0, none⟩)), (4, .pointer (some ⟨wo.heap.size, 0, none⟩)), (39, .slice B n2 c2), (40, .int .i64 (n2 : Nat)), (41, .int .i64 (i : Nat)), (9, .pointer (some ⟨ge, 0, none⟩))] ac → Code.wp Tryd.prog c_cn_r12 Q ac w := by
  refine frm_open ?_
  refine frame_cn ?_
  intros
  rename_i hq
  obtain ⟨-, -, e0q, e1q, e2q, e3q, e4q, e5q, e6q, e7q, -⟩ := hq
  obtain rfl := sI e0q
  obtain rfl := sI e1q
  obtain rfl := sI e2q
  obtain rfl := sI e3q
  obtain rfl := sI e4q
  obtain rfl := sI e5q
  obtain rfl := sI e6q
  obtain rfl := sI e7q
  conv => arg 2; whnf
  have f0 := cellv hf 0 rfl
  have fl := lt_heap hf
  have e0 := cellv hge 0 rfl
  have e1 := cellv hge 1 rfl
  have e2 := cellv hge 2 rfl
  have e3 := cellv hge 3 rfl
  have el := lt_heap hge
  clear hf hge
  have HN := Lib.hid hN
  have HCALL := Lib.hid hcall
  clear hN hcall
  go_wp2_with fail
  (with_reducible refine HCALL.out.mono ?_)
  rintro e w1 ⟨rfl, hc1⟩
  have HC1 := Lib.hid hc1
  clear hc1
  go_wp2_with fail
  exact HN.out _ _ (id ⟨rfl, rfl, rfl, rfl, rfl, rfl, rfl, rfl, rfl, trivial⟩) HC1.out
noncomputable def c_cn_r13 : Code := sub [1, 1, 1, 1, 0, 0, 1, 1, 1] (Tryd.f103.body.getD .skip)
set_option maxRecDepth 1000000 in
set_option maxHeartbeats 16000000 in
theorem cn_r13_wp {Q : Exit → Act → World → Prop} {i bl bw m e : Nat} {D : Option Addr} {wo w : World} {B : Option Addr} {n2 c2 : Nat} (hi : i < n2) (hlim : n2 ≤ maxLen) (hN : ∀ a', Frm 50 [(1, (.slice D m e)), (2, .pointer (some ⟨bl, 0, none⟩)), (3, .pointer (some ⟨bw, 0, none⟩)), (4, .pointer (some ⟨wo.heap.size, 0, none⟩)), (39, .slice B n2 c2), (40, .int .i64 (n2 : Nat)), (41, .int .i64 (i + 1 : Nat))] a' → Q .normal a' w) : ∀ ac, Frm 50 [(1, (.slice D m e)), (2, .pointer (some ⟨bl, 0, none⟩)), (3, .pointer (some ⟨bw, 0, none⟩)), (4, .pointer (some ⟨wo.heap.size, 0, none⟩)), (39, .slice B n2 c2), (40, .int .i64 (n2 : Nat)), (41, .int .i64 (i : Nat))] ac → Code.wp Tryd.prog c_cn_r13 Q ac w := by
  refine frm_open ?_
  refine frame_cn ?_
  intros
  rename_i hq
  obtain ⟨-, -, e0q, e1q, e2q, e3q, e4q, e5q, e6q, -⟩ := hq
  obtain rfl := sI e0q
  obtain rfl := sI e1q
  obtain rfl := sI e2q
  obtain rfl := sI e3q
  obtain rfl := sI e4q
  obtain rfl := sI e5q
  obtain rfl := sI e6q
  conv => arg 2; whnf
  have hi4 : (i : Int) ≤ 9223372036854775806 := by unfold maxLen at hlim; omega
  have HN := Lib.hid hN
  clear hN
  go_wp2_with fail
  exact HN.out _ (id ⟨rfl, rfl, rfl, rfl, rfl, rfl, rfl, rfl, rfl, trivial⟩)
end

end Go.Proofs.YtflcbbikfdahhaaDoor
