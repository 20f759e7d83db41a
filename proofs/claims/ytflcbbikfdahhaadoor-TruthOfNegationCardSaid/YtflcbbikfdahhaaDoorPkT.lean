/-
  The law TruthOfNegation: its regions, by parts.
-/
import Derived.Test.YtflcbbikfdahhaaDoorMdAt
import Derived.Test.YtflcbbikfdahhaaDoorProg
import Derived.Test.YtflcbbikfdahhaaDoorSets
import Derived.Test.YtflcbbikfdahhaaDoorTree
import Derived.Deep.DeepCutAuto
import Derived.Test.YtflcbbikfdahhaaDoorFmText
import Derived.Test.YtflcbbikfdahhaaDoorPkH
import Derived.Deep.RegionHeld3
import Derived.Deep.RegionLaw
namespace Go.Proofs.YtflcbbikfdahhaaDoor

section
open Go Go.RowKit
set_option linter.unusedSimpArgs false
set_option linter.unusedVariables false

def mdSmall : Md := ⟨1, [⟨⟨#[107, 105, 109]⟩, 0⟩], [⟨⟨#[100, 111, 103]⟩, 1, [[0]]⟩]⟩
theorem mdSmall_ok : mdFault mdSmall = (0, 0) := by decide +kernel
/-- A row of one thing in a block of its own. -/
theorem sl_lit {α : Type} {ρ : Rep α} {W : World} {S : Nat → Prop} {x : α} {ds : List Value} {blk : Nat} {T : TypeId} {fr : Nat × Nat} (hx : ρ.R W S x ds) (hb : W.heap[blk]? = some (.cells ds.toArray T fr)) (hS : S blk) :
    ρ.Sl W S (.slice (some ⟨blk, 0, none⟩) 1 1) [x] :=
  ⟨_, 1, 1, rfl, rfl, by simp [maxLen], fun _ => ⟨blk, 0, ds, rfl, hS, Rep.All.single hx, fun j u hj => by rw [Nat.zero_add]; exact cell_heap hb (by simpa using hj)⟩⟩

/-- What is new. -/
def FrS (w w' : World) : Nat → Prop := fun b => w.heap.size ≤ b ∧ b < w'.heap.size
/-- What small leaves. -/
def SmallAt (w : World) (e : Ending) (w' : World) : Prop := ∃ A c B d, e = .returned (.agg #[.int .i64 1, .slice A 1 c, .slice B 1 d]) ∧ mdSmall.In w' (FrS w w') [.int .i64 1, .slice A 1 c, .slice B 1 d] ∧ Below w.heap.size w w'

set_option maxRecDepth 100000 in
set_option maxHeartbeats 4000000 in
theorem small_any (w : World) : Calls Tryd.prog 16 #[] w (SmallAt w) := by
  go_enter Tryd.func16, Tryd.ntmps16
  go_upto_region 1 with (fail)
  go_cut [] (fun wx => mdSmall.In wx (FrS w wx) [.int .i64 1, .slice (some ⟨w.heap.size + 1, 0, none⟩) 1 1, .slice (some ⟨w.heap.size + 4, 0, none⟩) 1 1] ∧ wx.heap[w.heap.size]? = some (.cells #[.int .i64 1, .slice (some ⟨w.heap.size + 1, 0, none⟩) 1 1, .slice (some ⟨w.heap.size + 4, 0, none⟩) 1 1] 25 (0, 0)) ∧ Below w.heap.size w wx)
  case first =>
    go_wp2_with fail
    go_meet
    have hz : ∀ (o1 o2 o3 o4 o5 : Obj), (((((w.alloc o1).alloc o2).alloc o3).alloc o4).alloc o5).heap.size = w.heap.size + 5 := fun _ _ _ _ _ => by simp
    refine ⟨⟨_, _, rfl, sl_lit (ρ := conRep) (x := ⟨⟨#[107, 105, 109]⟩, 0⟩) (ds := [.string ⟨#[107, 105, 109]⟩, .int .i64 0]) (T := 56) (fr := (0, 0)) ⟨rfl, by decide +kernel⟩ ?k1 ⟨by omega, by rw [hz]; omega⟩,
      sl_lit (ρ := relRep) (x := ⟨⟨#[100, 111, 103]⟩, 1, [[0]]⟩) (ds := [.string ⟨#[100, 111, 103]⟩, .int .i64 1, .slice (some ⟨w.heap.size + 3, 0, none⟩) 1 1]) (T := 65) (fr := (0, 0)) ⟨_, rfl, by decide +kernel,
        sl_lit (ρ := intsRep) (x := [0]) (ds := [.slice (some ⟨w.heap.size + 2, 0, none⟩) 1 1]) (T := 44) (fr := (0, 0)) ⟨_, rfl, sl_lit (ρ := zRep) (x := 0) (ds := [.int .i64 0]) (T := 3) (fr := (0, 0)) rfl ?k2 ⟨by omega, by rw [hz]; omega⟩⟩ ?k3 ⟨by omega, by rw [hz]; omega⟩⟩ ?k4 ⟨by omega, by rw [hz]; omega⟩⟩, ?k0, by go_grown⟩
    case k1 => exact heap_old (by first | (simp; done) | (simp; omega)) (heap_old (by first | (simp; done) | (simp; omega)) (heap_old (by first | (simp; done) | (simp; omega)) (heap_at (by first | (simp; done) | (simp; omega)))))
    case k2 => exact heap_old (by first | (simp; done) | (simp; omega)) (heap_old (by first | (simp; done) | (simp; omega)) (heap_at (by first | (simp; done) | (simp; omega))))
    case k3 => exact heap_old (by first | (simp; done) | (simp; omega)) (heap_at (by first | (simp; done) | (simp; omega)))
    case k4 => exact heap_at (by first | (simp; done) | (simp; omega))
    case k0 => exact heap_old (by first | (simp; done) | (simp; omega)) (heap_old (by first | (simp; done) | (simp; omega)) (heap_old (by first | (simp; done) | (simp; omega)) (heap_old (by first | (simp; done) | (simp; omega)) (heap_at rfl))))
  case rest =>
    obtain ⟨hin, k0, hb⟩ := hcut
    rename World => wx
    have hfin : SmallAt w (.returned (.agg #[.int .i64 1, .slice (some ⟨w.heap.size + 1, 0, none⟩) 1 1, .slice (some ⟨w.heap.size + 4, 0, none⟩) 1 1])) wx := ⟨_, _, _, _, rfl, hin, hb⟩
    have HIN := Lib.hid hin
    have HB := Lib.hid hb
    have HFIN := Lib.hid hfin
    clear hin hb hfin
    have k0_0 := cv0 k0
    have k0_1 := cv1 k0
    have k0_2 := cv2 k0
    have k0_l := lt_heap k0
    have K0 := Lib.hid k0
    clear k0
    go_wp2_with fail
    refine bodyPost_ret (v := .agg #[.int .i64 1, .slice (some ⟨w.heap.size + 1, 0, none⟩) 1 1, .slice (some ⟨w.heap.size + 4, 0, none⟩) 1 1]) (by simp [results, Tryd.results16, go_sem, k0_0, k0_1, k0_2, k0_l]) rfl ?_
    exact HFIN.out
end

section
open Go Go.RowKit
set_option linter.unusedSimpArgs false
set_option linter.unusedVariables false

theorem pred_any (nm : ByteArray) (v : Value) (w : World) (hv : ∃ A n c, v = .slice A n c) : Calls Tryd.prog 17 #[.string nm, v] w fun e w' => e = .returned (.agg #[.int .i64 2, .string nm, v, .slice none 0 0]) ∧ Below w.heap.size w w' := by
  obtain ⟨A, n, c, rfl⟩ := hv
  go_enter Tryd.func17, Tryd.ntmps17
  go_wp2_with fail
  refine bodyPost_ret (v := .agg #[.int .i64 2, .string nm, .slice A n c, .slice none 0 0]) (by simp [results, Tryd.results17, go_sem]) rfl ?_
  exact ⟨rfl, by go_grown⟩
def bKim : ByteArray := ⟨#[107, 105, 109]⟩
def bDog : ByteArray := ⟨#[100, 111, 103]⟩
/-- dog(kim). -/
def fvKim : Fv := .pred bDog [bKim]
theorem fvKim_ok : fvKim.ok := ⟨by decide +kernel, by decide, by decide +kernel⟩
theorem fp_kim : fpC ⟨#[100, 111, 103, 40, 107, 105, 109, 41]⟩ = (0, 0) ∧ fpF ⟨#[100, 111, 103, 40, 107, 105, 109, 41]⟩ = fvKim.fm :=
  fp_text (v := fvKim) fvKim_ok (by decide) (by decide) (by decide +kernel)
/-- -true. -/
def fvNot : Fv := .neg .tru
theorem fp_not : fpC ⟨#[45, 116, 114, 117, 101]⟩ = (0, 0) ∧ fpF ⟨#[45, 116, 114, 117, 101]⟩ = fvNot.fm :=
  fp_text (v := fvNot) trivial (by decide) (by decide) (by decide +kernel)
end

section
open Go Go.RowKit
set_option linter.unusedSimpArgs false
set_option linter.unusedVariables false

/-- A formula is known by its tree. -/
theorem Fv.fm_inj : ∀ (v v' : Fv), v.ok → v'.ok → v.fm = v'.fm → v = v' := by
  intro v
  induction v with
  | tru =>
    intro v' h1 h2 h
    cases v' <;> simp only [Fv.fm, Fv.ok, Tree.mk.injEq, FmL.mk.injEq] at h h2 <;> first | rfl | (exfalso; omega)
  | pred n ws =>
    intro v' h1 h2 h
    cases v' <;> simp only [Fv.fm, Fv.ok, Tree.mk.injEq, FmL.mk.injEq] at h h2 <;> first | (obtain ⟨⟨_, rfl, rfl⟩, _⟩ := h; rfl) | (exfalso; omega)
  | same a b =>
    intro v' h1 h2 h
    cases v' <;> simp only [Fv.fm, Fv.ok, Tree.mk.injEq, FmL.mk.injEq] at h h2 <;> first | (exfalso; omega) | (obtain ⟨⟨_, _, h3⟩, _⟩ := h; simp at h3; obtain ⟨rfl, rfl⟩ := h3; rfl)
  | neg f ih =>
    intro v' h1 h2 h
    cases v' <;> simp only [Fv.fm, Fv.ok, Tree.mk.injEq, FmL.mk.injEq] at h h2 <;> first | (exfalso; omega) | (obtain ⟨_, h3⟩ := h; rw [ih _ h1 h2 (List.cons.inj h3).1])
  | bin k f g ihf ihg =>
    intro v' h1 h2 h
    have hk := h1.1
    cases v' <;> simp only [Fv.fm, Fv.ok, Tree.mk.injEq, FmL.mk.injEq] at h h2 <;> first | (exfalso; omega) | (obtain ⟨⟨h0, _, _⟩, h3⟩ := h; obtain ⟨h4, h5⟩ := List.cons.inj h3; rw [ihf _ h1.2.1 h2.2.1 h4, ihg _ h1.2.2 h2.2.2 (List.cons.inj h5).1, Int.ofNat_inj.1 h0])
  | qu k x f ih =>
    intro v' h1 h2 h
    have hk := h1.1
    cases v' <;> simp only [Fv.fm, Fv.ok, Tree.mk.injEq, FmL.mk.injEq] at h h2 <;> first | (exfalso; omega) | (obtain ⟨⟨h0, h6, _⟩, h3⟩ := h; rw [ih _ h1.2.2 h2.2.2 (List.cons.inj h3).1, h6, Int.ofNat_inj.1 h0])

/-! ### The makers -/

set_option maxRecDepth 100000 in
set_option maxHeartbeats 4000000 in
theorem notT_any (kd : Int) (nm : ByteArray) (A : Option Addr) (n1 c1 : Nat) (B : Option Addr) (n2 c2 : Nat) (w : World) : Calls Tryd.prog 20 #[.agg #[.int .i64 kd, .string nm, .slice A n1 c1, .slice B n2 c2]] w fun e w' => ∃ g, e = .returned (.agg #[.int .i64 4, .string ⟨#[]⟩, .slice none 0 0, .slice (some ⟨g, 0, none⟩) 1 1]) ∧ w'.heap[g]? = some (.cells #[.int .i64 kd, .string nm, .slice A n1 c1, .slice B n2 c2] 29 (0, 0)) ∧ w.heap.size ≤ g ∧ Below w.heap.size w w' := by
  go_enter Tryd.func20, Tryd.ntmps20
  go_wp2_with fail
  refine bodyPost_ret (v := .agg #[.int .i64 4, .string ⟨#[]⟩, .slice none 0 0, .slice (some ⟨w.heap.size + 1 + 1, 0, none⟩) 1 1]) (by simp [results, Tryd.results20, go_sem]) rfl ?_
  exact ⟨_, rfl, heap_at (by simp), by omega, by go_grown⟩
set_option maxRecDepth 100000 in
set_option maxHeartbeats 4000000 in
theorem boundT_any (k : Int) (y : ByteArray) (kd : Int) (nm : ByteArray) (A : Option Addr) (n1 c1 : Nat) (B : Option Addr) (n2 c2 : Nat) (w : World) : Calls Tryd.prog 22 #[.int .i64 k, .string y, .agg #[.int .i64 kd, .string nm, .slice A n1 c1, .slice B n2 c2]] w fun e w' => ∃ g, e = .returned (.agg #[.int .i64 k, .string y, .slice none 0 0, .slice (some ⟨g, 0, none⟩) 1 1]) ∧ w'.heap[g]? = some (.cells #[.int .i64 kd, .string nm, .slice A n1 c1, .slice B n2 c2] 29 (0, 0)) ∧ w.heap.size ≤ g ∧ Below w.heap.size w w' := by
  go_enter Tryd.func22, Tryd.ntmps22
  go_wp2_with fail
  refine bodyPost_ret (v := .agg #[.int .i64 k, .string y, .slice none 0 0, .slice (some ⟨w.heap.size + 1 + 1, 0, none⟩) 1 1]) (by simp [results, Tryd.results22, go_sem]) rfl ?_
  exact ⟨_, rfl, heap_at (by simp), by omega, by go_grown⟩
/-- One part in a block of its own. -/
theorem kid1_rep {W : World} {S : Nat → Prop} {t : Fm} {g : Nat} {k : Int} {x : ByteArray} {kd : Int} {nm : ByteArray} {A B : Option Addr} {n1 c1 n2 c2 : Nat} (hx : x.size ≤ maxLen) (hr : fmRep.R W S t [.int .i64 kd, .string nm, .slice A n1 c1, .slice B n2 c2]) (hg : W.heap[g]? = some (.cells #[.int .i64 kd, .string nm, .slice A n1 c1, .slice B n2 c2] 29 (0, 0))) (sg : S g) : fmRep.R W S (.mk ⟨k, x, []⟩ [t]) [.int .i64 k, .string x, .slice none 0 0, .slice (some ⟨g, 0, none⟩) 1 1] := by
  refine Fm.shut (a := ⟨k, x, []⟩) (l := [t]) hx Rep.Sl.nil ?_
  refine ⟨_, _, _, rfl, rfl, by decide, fun _ => ⟨g, 0, _, rfl, sg, Rep.All.single hr, fun j u hj => ?_⟩⟩
  rw [Nat.zero_add]
  match j, hj with
  | 0, hj => exact (cellv hg 0 rfl).trans (by simpa using hj)
  | 1, hj => exact (cellv hg 1 rfl).trans (by simpa using hj)
  | 2, hj => exact (cellv hg 2 rfl).trans (by simpa using hj)
  | 3, hj => exact (cellv hg 3 rfl).trans (by simpa using hj)
  | n + 4, hj => simp at hj
theorem slS1t {w : World} {S : Nat → Prop} {g : Nat} {a : ByteArray} {T : TypeId} (hb : w.heap[g]? = some (.cells #[.string a] T (0, 0))) (h1 : a.size ≤ maxLen) (hg : S g) : strRep.Sl w S (.slice (some ⟨g, 0, none⟩) 1 1) [a] := by
  refine ⟨_, 1, 1, rfl, rfl, by simp [maxLen], fun _ => ⟨g, 0, [.string a], rfl, hg, ⟨[.string a], [], rfl, ⟨rfl, h1⟩, rfl⟩, fun j u hj => ?_⟩⟩
  rw [Nat.zero_add]
  match j, hj with
  | 0, hj => exact (cellv hb 0 rfl).trans (by simpa using hj)
  | n + 1, hj => simp at hj
theorem dog_rep {W : World} {S : Nat → Prop} {a : ByteArray} {g : Nat} {T : TypeId} (ha : a.size ≤ maxLen) (hg : W.heap[g]? = some (.cells #[.string a] T (0, 0))) (sg : S g) : fmRep.R W S (Fv.pred bDog [a]).fm [.int .i64 2, .string bDog, .slice (some ⟨g, 0, none⟩) 1 1, .slice none 0 0] :=
  Fm.shut (a := ⟨2, bDog, [a]⟩) (l := []) (show bDog.size ≤ maxLen from by decide +kernel) (slS1t hg ha sg) Rep.Sl.nil

/-! ### The examples -/

theorem allC_of {m : Md} {t : Fm} (h : ∀ c ∈ fmFrees [] t, (conV m c).isSome = true) : allC m (fmConsts t) = true := by
  unfold allC
  rw [List.all_eq_true]
  intro c hc
  exact h c (mem_constsB.1 hc)
theorem fault_ok0 {v : Fv} (hv : v.ok) (hn : v.nodes ≤ 200) (hd : v.depth ≤ 40) : fmFault v.fm = (0, 0) := by
  unfold fmFault
  rw [Fv.val_ok false v 1 0 hv (by omega) (by omega)]
theorem holdsC_zero {m : Md} {v : Fv} (hm : (mdFault m).1 = 0) (hv : v.ok) (hn : v.nodes ≤ 200) (hd : v.depth ≤ 40) (h1 : nestT v.fm ≤ 5) (h2 : ∀ c ∈ fmFrees [] v.fm, (conV m c).isSome = true) (h3 : hasT m v.fm = true) : holdsC m v.fm = (0, 0) := by
  unfold holdsC
  rw [if_neg (by omega), if_neg (by rw [fault_ok0 hv hn hd]; simp)]
  unfold pairT
  rw [if_neg (by omega), if_neg (by rw [allC_of h2]; decide), if_neg (by rw [h3]; decide)]
theorem mdSmall_zero : (mdFault mdSmall).1 = 0 := by rw [mdSmall_ok]
def exDog : Fv := .pred bDog [bKim]
def exNot : Fv := .neg exDog
def exAll : Fv := .qu 8 ⟨#[120]⟩ (.pred bDog [⟨#[120]⟩])
def exSome : Fv := .qu 9 ⟨#[120]⟩ (.pred bDog [⟨#[120]⟩])
def exSomeNot : Fv := .qu 9 ⟨#[120]⟩ (.neg (.pred bDog [⟨#[120]⟩]))
theorem exDog_ok : exDog.ok := ⟨by decide +kernel, by decide, by decide +kernel⟩
theorem exAll_ok : exAll.ok := ⟨Or.inl rfl, by decide +kernel, by decide +kernel, by decide, by decide +kernel⟩
theorem exSome_ok : exSome.ok := ⟨Or.inr rfl, by decide +kernel, by decide +kernel, by decide, by decide +kernel⟩
theorem exSomeNot_ok : exSomeNot.ok := ⟨Or.inr rfl, by decide +kernel, by decide +kernel, by decide, by decide +kernel⟩
theorem exDog_zero : holdsC mdSmall exDog.fm = (0, 0) := holdsC_zero mdSmall_zero exDog_ok (by decide) (by decide) (by decide +kernel) (by decide +kernel) (by decide +kernel)
theorem exNot_zero : holdsC mdSmall exNot.fm = (0, 0) := holdsC_zero mdSmall_zero exDog_ok (by decide) (by decide) (by decide +kernel) (by decide +kernel) (by decide +kernel)
theorem exAll_zero : holdsC mdSmall exAll.fm = (0, 0) := holdsC_zero mdSmall_zero exAll_ok (by decide) (by decide) (by decide +kernel) (by decide +kernel) (by decide +kernel)
theorem exSome_zero : holdsC mdSmall exSome.fm = (0, 0) := holdsC_zero mdSmall_zero exSome_ok (by decide) (by decide) (by decide +kernel) (by decide +kernel) (by decide +kernel)
theorem exSomeNot_zero : holdsC mdSmall exSomeNot.fm = (0, 0) := holdsC_zero mdSmall_zero exSomeNot_ok (by decide) (by decide) (by decide +kernel) (by decide +kernel) (by decide +kernel)
theorem exDog_eval : evalF mdSmall exDog [] = true := by decide +kernel
theorem exNot_eval : evalF mdSmall exNot [] = false := by decide +kernel
theorem exAll_eval : evalF mdSmall exAll [] = true := by decide +kernel
theorem exSomeNot_eval : evalF mdSmall exSomeNot [] = false := by decide +kernel
/-- truth.Holds on a formula with which nothing is wrong. -/
theorem holds_good {m : Md} {v : Fv} {bb : Bool} (hz : holdsC m v.fm = (0, 0)) (hok : v.ok) (he : evalF m v [] = bb) (ms cs : List Value) (W : World) (S : Nat → Prop) (hm : m.In W S ms) (ht : fmRep.R W S v.fm cs) (hS : ∀ b, S b → b < W.heap.size) : Calls Tryd.prog 15 #[.agg ms.toArray, .agg cs.toArray] W fun e w' => e = .returned (.tuple #[.bool bb, .agg #[.int .i64 0, .int .i64 0]]) ∧ Below W.heap.size W w' := by
  refine (holds_any m v.fm ms cs W S ht hm hS).mono ?_
  rintro e w' ⟨b, rfl, _, h2, hb⟩
  obtain ⟨v', e1, ok', _, _, rfl⟩ := h2 (by rw [hz])
  obtain rfl := Fv.fm_inj v v' hok ok' e1
  rw [hz, he]
  exact ⟨rfl, hb⟩
theorem holdsC_snd {m : Md} {t : Fm} (h : (holdsC m t).1 = 0) : holdsC m t = (0, 0) := by
  unfold holdsC at h ⊢
  split at h
  · rename_i h1; exact absurd h (by simp; omega)
  rename_i h1
  rw [if_neg h1]
  split at h
  · rename_i h2; exact absurd h (by simp; omega)
  rename_i h2
  rw [if_neg h2]
  exact (pairT_zero h).1
theorem holdsC_ok {m : Md} {t : Fm} (h : (holdsC m t).1 = 0) : (mdFault m).1 = 0 ∧ (fmFault t).1 = 0 ∧ (pairT m t).1 = 0 := by
  unfold holdsC at h
  split at h
  · rename_i h1; exact absurd h (by simp; omega)
  rename_i h1
  split at h
  · rename_i h2; exact absurd h (by simp; omega)
  rename_i h2
  exact ⟨by omega, by omega, h⟩
open Classical in
/-- What Holds returns. -/
noncomputable def holdsB (m : Md) (t : Fm) : Bool := if (holdsC m t).1 = 0 then (if h : ∃ v : Fv, t = v.fm ∧ v.ok then evalF m h.choose [] else false) else false
theorem holdsB_bad {m : Md} {t : Fm} (h : (holdsC m t).1 ≠ 0) : holdsB m t = false := if_neg h
theorem holdsB_good {m : Md} {v : Fv} (h : (holdsC m v.fm).1 = 0) (hv : v.ok) : holdsB m v.fm = evalF m v [] := by
  unfold holdsB
  have hx : ∃ v' : Fv, v.fm = v'.fm ∧ v'.ok := ⟨v, rfl, hv⟩
  rw [if_pos h, dif_pos hx]
  have h2 := hx.choose_spec
  rw [← Fv.fm_inj v hx.choose hv h2.2 h2.1]
theorem holdsB_any (m : Md) (t : Fm) (ms cs : List Value) (w : World) (S : Nat → Prop) (ht : fmRep.R w S t cs) (hm : m.In w S ms) (hS : ∀ b, S b → b < w.heap.size) :
    Calls Tryd.prog 15 #[.agg ms.toArray, .agg cs.toArray] w fun e w' => e = .returned (.tuple #[.bool (holdsB m t), .agg #[.int .i64 (holdsC m t).1, .int .i64 (holdsC m t).2]]) ∧ Below w.heap.size w w' := by
  refine (holds_any m t ms cs w S ht hm hS).mono ?_
  rintro e w' ⟨b, rfl, h1, h2, hb⟩
  refine ⟨?_, hb⟩
  by_cases h : (holdsC m t).1 = 0
  · obtain ⟨v, rfl, ov, _, _, rfl⟩ := h2 h
    rw [holdsB_good h ov]
  · rw [holdsB_bad h, h1 h]
theorem neg_law {m : Md} {t : Fm} (h1 : (holdsC m t).1 = 0) (h2 : (holdsC m (.mk ⟨4, ⟨#[]⟩, []⟩ [t])).1 = 0) : (holdsB m t != holdsB m (.mk ⟨4, ⟨#[]⟩, []⟩ [t])) = true := by
  obtain ⟨v, rfl, ov, _, _, _⟩ := fault_ok9 (holdsC_ok h1).2.1
  rw [holdsB_good h1 ov]
  have h3 := holdsB_good (v := .neg v) h2 ov
  rw [show (Tree.mk (⟨4, ⟨#[]⟩, []⟩ : FmL) [v.fm]) = (Fv.neg v).fm from rfl, h3]
  simp [evalF]
end

section
open Go Go.RowKit
set_option linter.unusedSimpArgs false
set_option linter.unusedVariables false

set_option maxRecDepth 1000000 in
theorem frame_ln {P : Act → Prop} (h : ∀ x0 x1 x2 x3 x4 x5 x6 x7 x8 x9 x10 x11 x12 x13 x14 x15 x16 x17 x18 x19 x20 x21 x22 x23 x24 x25 x26 x27 x28 x29 x30 x31 x32 x33 x34 x35 x36 x37 x38 x39 x40 x41 x42 x43 x44 x45 x46 x47 x48 x49 x50 x51 x52 x53 x54 x55 x56 x57 x58 x59 x60 x61 x62 x63 x64 x65 x66 : Value, P ⟨(x0 :: x1 :: x2 :: x3 :: x4 :: x5 :: x6 :: x7 :: x8 :: x9 :: x10 :: x11 :: x12 :: x13 :: x14 :: x15 :: x16 :: x17 :: x18 :: x19 :: x20 :: x21 :: x22 :: x23 :: x24 :: x25 :: x26 :: x27 :: x28 :: x29 :: x30 :: x31 :: x32 :: x33 :: x34 :: x35 :: x36 :: x37 :: x38 :: x39 :: x40 :: x41 :: x42 :: x43 :: x44 :: x45 :: x46 :: x47 :: x48 :: x49 :: x50 :: x51 :: x52 :: x53 :: x54 :: x55 :: x56 :: x57 :: x58 :: x59 :: x60 :: x61 :: x62 :: x63 :: x64 :: x65 :: x66 :: []).toArray, []⟩) : ∀ a : Act, a.tmps.toList.length = 67 → a.defers = [] → P a := by
  rintro ⟨⟨l⟩, d⟩ hs hd
  simp only at hd
  subst hd
  revert l
  show ∀ l : List Value, l.length = 67 → P ⟨⟨l⟩, []⟩
  refine openS (n := 66) (fun x0 => ?_)
  refine openS (n := 65) (fun x1 => ?_)
  refine openS (n := 64) (fun x2 => ?_)
  refine openS (n := 63) (fun x3 => ?_)
  refine openS (n := 62) (fun x4 => ?_)
  refine openS (n := 61) (fun x5 => ?_)
  refine openS (n := 60) (fun x6 => ?_)
  refine openS (n := 59) (fun x7 => ?_)
  refine openS (n := 58) (fun x8 => ?_)
  refine openS (n := 57) (fun x9 => ?_)
  refine openS (n := 56) (fun x10 => ?_)
  refine openS (n := 55) (fun x11 => ?_)
  refine openS (n := 54) (fun x12 => ?_)
  refine openS (n := 53) (fun x13 => ?_)
  refine openS (n := 52) (fun x14 => ?_)
  refine openS (n := 51) (fun x15 => ?_)
  refine openS (n := 50) (fun x16 => ?_)
  refine openS (n := 49) (fun x17 => ?_)
  refine openS (n := 48) (fun x18 => ?_)
  refine openS (n := 47) (fun x19 => ?_)
  refine openS (n := 46) (fun x20 => ?_)
  refine openS (n := 45) (fun x21 => ?_)
  refine openS (n := 44) (fun x22 => ?_)
  refine openS (n := 43) (fun x23 => ?_)
  refine openS (n := 42) (fun x24 => ?_)
  refine openS (n := 41) (fun x25 => ?_)
  refine openS (n := 40) (fun x26 => ?_)
  refine openS (n := 39) (fun x27 => ?_)
  refine openS (n := 38) (fun x28 => ?_)
  refine openS (n := 37) (fun x29 => ?_)
  refine openS (n := 36) (fun x30 => ?_)
  refine openS (n := 35) (fun x31 => ?_)
  refine openS (n := 34) (fun x32 => ?_)
  refine openS (n := 33) (fun x33 => ?_)
  refine openS (n := 32) (fun x34 => ?_)
  refine openS (n := 31) (fun x35 => ?_)
  refine openS (n := 30) (fun x36 => ?_)
  refine openS (n := 29) (fun x37 => ?_)
  refine openS (n := 28) (fun x38 => ?_)
  refine openS (n := 27) (fun x39 => ?_)
  refine openS (n := 26) (fun x40 => ?_)
  refine openS (n := 25) (fun x41 => ?_)
  refine openS (n := 24) (fun x42 => ?_)
  refine openS (n := 23) (fun x43 => ?_)
  refine openS (n := 22) (fun x44 => ?_)
  refine openS (n := 21) (fun x45 => ?_)
  refine openS (n := 20) (fun x46 => ?_)
  refine openS (n := 19) (fun x47 => ?_)
  refine openS (n := 18) (fun x48 => ?_)
  refine openS (n := 17) (fun x49 => ?_)
  refine openS (n := 16) (fun x50 => ?_)
  refine openS (n := 15) (fun x51 => ?_)
  refine openS (n := 14) (fun x52 => ?_)
  refine openS (n := 13) (fun x53 => ?_)
  refine openS (n := 12) (fun x54 => ?_)
  refine openS (n := 11) (fun x55 => ?_)
  refine openS (n := 10) (fun x56 => ?_)
  refine openS (n := 9) (fun x57 => ?_)
  refine openS (n := 8) (fun x58 => ?_)
  refine openS (n := 7) (fun x59 => ?_)
  refine openS (n := 6) (fun x60 => ?_)
  refine openS (n := 5) (fun x61 => ?_)
  refine openS (n := 4) (fun x62 => ?_)
  refine openS (n := 3) (fun x63 => ?_)
  refine openS (n := 2) (fun x64 => ?_)
  refine openS (n := 1) (fun x65 => ?_)
  refine openS (n := 0) (fun x66 => ?_)
  refine open0 ?_
  exact h x0 x1 x2 x3 x4 x5 x6 x7 x8 x9 x10 x11 x12 x13 x14 x15 x16 x17 x18 x19 x20 x21 x22 x23 x24 x25 x26 x27 x28 x29 x30 x31 x32 x33 x34 x35 x36 x37 x38 x39 x40 x41 x42 x43 x44 x45 x46 x47 x48 x49 x50 x51 x52 x53 x54 x55 x56 x57 x58 x59 x60 x61 x62 x63 x64 x65 x66
noncomputable def c_ln_r0 : Code := sub [0] (Tryd.f4.body.getD .skip)
set_option maxRecDepth 1000000 in
set_option maxHeartbeats 16000000 in
theorem ln_r0_wp {Q : Exit → Act → World → Prop} {z : Int} {Am Bm : Option Addr} {nm1 cm nm2 dm : Nat} {wo : World} {kd : Int} {nm : ByteArray} {A B : Option Addr} {n1 c1 n2 c2 : Nat} (hN : ∀ a', Frm 67 [(2, .pointer (some ⟨wo.heap.size, 0, none⟩)), (3, .pointer (some ⟨(wo.heap.size + 1), 0, none⟩))] a' → Q .normal a' ((wo.alloc (.cells #[.int .i64 z, .slice Am nm1 cm, .slice Bm nm2 dm] 25)).alloc (.cells #[.int .i64 kd, .string nm, .slice A n1 c1, .slice B n2 c2] 29))) : ∀ ac, Frm 67 [(0, .agg #[.int .i64 z, .slice Am nm1 cm, .slice Bm nm2 dm]), (1, .agg #[.int .i64 kd, .string nm, .slice A n1 c1, .slice B n2 c2])] ac → Code.wp Tryd.prog c_ln_r0 Q ac wo := by
  refine frm_open ?_
  refine frame_ln ?_
  intros
  rename_i hq
  obtain ⟨-, -, e0q, e1q, -⟩ := hq
  obtain rfl := sI e0q
  obtain rfl := sI e1q
  conv => arg 2; whnf
  have HN := Lib.hid hN
  clear hN
  go_wp2_with fail
  exact HN.out _ (id ⟨rfl, rfl, rfl, rfl, trivial⟩)
noncomputable def c_ln_r1 : Code := sub [1, 0, 0] (Tryd.f4.body.getD .skip)
set_option maxRecDepth 1000000 in
set_option maxHeartbeats 16000000 in
theorem ln_r1_wp {Q : Exit → Act → World → Prop} {bb : Bool} {gm gf : Nat} {w : World} (hc : ∀ (W : World) (ms cs : List Value), mdSmall.In W (Lo W) ms → fmRep.R W (Lo W) exNot.fm cs → Below w.heap.size w W → Calls Tryd.prog 15 #[.agg ms.toArray, .agg cs.toArray] W fun e w' => e = .returned (.tuple #[.bool bb, .agg #[.int .i64 0, .int .i64 0]]) ∧ Below W.heap.size W w') (hN : ∀ ge a' w', Frm 67 [(2, .pointer (some ⟨gm, 0, none⟩)), (3, .pointer (some ⟨gf, 0, none⟩)), (5, .bool bb), (6, .pointer (some ⟨ge, 0, none⟩))] a' → w'.heap[ge]? = some (.cells #[.int .i64 0, .int .i64 0] 31 (0, 0)) → Below w.heap.size w w' → Q .normal a' w') : ∀ ac, Frm 67 [(2, .pointer (some ⟨gm, 0, none⟩)), (3, .pointer (some ⟨gf, 0, none⟩))] ac → Code.wp Tryd.prog c_ln_r1 Q ac w := by
  refine frm_open ?_
  refine frame_ln ?_
  intros
  rename_i hq
  obtain ⟨-, -, e0q, e1q, -⟩ := hq
  obtain rfl := sI e0q
  obtain rfl := sI e1q
  conv => arg 2; whnf
  have hp := fun (W : World) (g : Nat) => pred_any bDog (.slice (some ⟨g, 0, none⟩) 1 1) W ⟨_, _, _, rfl⟩
  unfold bDog at hp
  have hsm := fun W : World => small_any W
  have hk := fun (W W2 : World) (ms : List Value) (h : mdSmall.In W (Lo W) ms) (hb : Below W.heap.size W W2) => Md.In.keep (w' := W2) (S' := Lo W2) h (fun b h => hb.block b h) (fun b h => Nat.lt_of_lt_of_le h hb.size)
  have hno := fun (W : World) (g : Nat) => notT_any 2 ⟨#[100, 111, 103]⟩ (some ⟨g, 0, none⟩) 1 1 none 0 0 W
  have HN := Lib.hid hN
  have HP := Lib.hid hp
  have HSM := Lib.hid hsm
  have HC := Lib.hid hc
  have HK := Lib.hid hk
  have HNO := Lib.hid hno
  clear hN hp hsm hc hk hno
  go_wp2_with fail
  (with_reducible refine (HSM.out _).mono ?_)
  rintro e w1 ⟨A1, c1, B1, d1, rfl, hin1, hb1⟩
  have hin1' := Md.In.keep (S' := Lo w1) hin1 (fun b hb => rfl) (fun b hb => hb.2)
  have HIN1 := Lib.hid hin1'
  have HB1 := Lib.hid hb1
  clear hin1 hin1' hb1
  go_wp2_with fail
  (with_reducible refine (HP.out _ _).mono ?_)
  rintro e w2 ⟨rfl, hb2⟩
  have hz1 := HB1.out.size
  have hz2 := hb2.size
  have hg2 := (hb2.block w1.heap.size (by simp)).trans (heap_alloc_new _ _)
  have hB12 : Below w1.heap.size w1 w2 := (show Below w1.heap.size w1 _ by go_grown).trans (hb2.mono (by simp))
  have hB2 : Below w.heap.size w w2 := HB1.out.trans (hB12.mono hz1)
  have HIN2 := Lib.hid (HK.out _ _ _ HIN1.out hB12)
  have hr2 : fmRep.R w2 (Lo w2) (Fv.pred bDog [⟨#[107, 105, 109]⟩]).fm [.int .i64 2, .string ⟨#[100, 111, 103]⟩, .slice (some ⟨w1.heap.size, 0, none⟩) 1 1, .slice none 0 0] := dog_rep (by decide +kernel) hg2 (by have := lt_heap hg2; exact this)
  have HR2 := Lib.hid hr2
  have HB2 := Lib.hid hB2
  clear hb2 hg2 hB12 hB2 hr2 hz2 hz1
  go_wp2_with fail
  (with_reducible refine (HNO.out _ _).mono ?_)
  rintro e w3 ⟨g3, rfl, hg3, hgl3, hb3⟩
  have hz2 := HB2.out.size
  have hB3 : Below w.heap.size w w3 := HB2.out.trans (hb3.mono hz2)
  have HIN3 := Lib.hid (HK.out _ _ _ HIN2.out hb3)
  have hr3 := kid1_rep (S := Lo w3) (k := 4) (x := ⟨#[]⟩) (by decide +kernel) (fmRep.keep (w' := w3) (S' := Lo w3) HR2.out (fun b hb => hb3.block b hb) (fun b hb => Nat.lt_of_lt_of_le hb hb3.size)) hg3 (by have := lt_heap hg3; exact this)
  have HR3 := Lib.hid hr3
  have HB3 := Lib.hid hB3
  clear hg3 hgl3 hb3 hB3 hr3 hz2
  have HRX := Lib.hid (show fmRep.R w3 (Lo w3) exNot.fm _ from HR3.out)
  go_wp2_with fail
  (with_reducible refine (HC.out w3 _ _ HIN3.out HRX.out HB3.out).mono ?_)
  rintro e w9 ⟨rfl, hb9⟩
  have hz3 := HB3.out.size
  have HB9 := Lib.hid (HB3.out.trans (hb9.mono hz3))
  clear hb9 hz3
  go_wp2_with fail
  have hz9 := HB9.out.size
  exact HN.out w9.heap.size _ _ (id ⟨rfl, rfl, rfl, rfl, rfl, rfl, trivial⟩) (heap_at rfl) (HB9.out.alloc hz9 _)
noncomputable def c_ln_r2 : Code := sub [1, 0, 1, 0] (Tryd.f4.body.getD .skip)
set_option maxRecDepth 1000000 in
set_option maxHeartbeats 16000000 in
theorem ln_r2_wp {Q : Exit → Act → World → Prop} {gm gf : Nat} {ge : Nat} {w : World} (g0 : w.cell? ⟨0, 0, none⟩ = some (.int .i64 0)) (g1 : w.cell? ⟨0, 1, none⟩ = some (.int .i64 0)) (he : w.heap[ge]? = some (.cells #[.int .i64 0, .int .i64 0] 31 (0, 0))) (hN : ∀ a', Frm 67 [(2, .pointer (some ⟨gm, 0, none⟩)), (3, .pointer (some ⟨gf, 0, none⟩)), (26, .bool false)] a' → Q .normal a' w) : ∀ ac, Frm 67 [(2, .pointer (some ⟨gm, 0, none⟩)), (3, .pointer (some ⟨gf, 0, none⟩)), (5, .bool false), (6, .pointer (some ⟨ge, 0, none⟩))] ac → Code.wp Tryd.prog c_ln_r2 Q ac w := by
  refine frm_open ?_
  refine frame_ln ?_
  intros
  rename_i hq
  obtain ⟨-, -, e0q, e1q, e2q, e3q, -⟩ := hq
  obtain rfl := sI e0q
  obtain rfl := sI e1q
  obtain rfl := sI e2q
  obtain rfl := sI e3q
  conv => arg 2; whnf
  have e0 := cellv he 0 rfl
  have e1 := cellv he 1 rfl
  have el := lt_heap he
  have lg := World.block_lt_of_cell? w _ g0
  clear he
  have HN := Lib.hid hN
  clear hN
  go_wp2_with fail
  exact HN.out _ (id ⟨rfl, rfl, rfl, rfl, rfl, trivial⟩)
noncomputable def c_ln_r4 : Code := sub [1, 1, 0, 0] (Tryd.f4.body.getD .skip)
set_option maxRecDepth 1000000 in
set_option maxHeartbeats 16000000 in
theorem ln_r4_wp {Q : Exit → Act → World → Prop} {bb : Bool} {gm gf : Nat} {w : World} (hc : ∀ (W : World) (ms cs : List Value), mdSmall.In W (Lo W) ms → fmRep.R W (Lo W) exDog.fm cs → Below w.heap.size w W → Calls Tryd.prog 15 #[.agg ms.toArray, .agg cs.toArray] W fun e w' => e = .returned (.tuple #[.bool bb, .agg #[.int .i64 0, .int .i64 0]]) ∧ Below W.heap.size W w') (hN : ∀ ge a' w', Frm 67 [(2, .pointer (some ⟨gm, 0, none⟩)), (3, .pointer (some ⟨gf, 0, none⟩)), (7, .bool bb), (8, .pointer (some ⟨ge, 0, none⟩))] a' → w'.heap[ge]? = some (.cells #[.int .i64 0, .int .i64 0] 31 (0, 0)) → Below w.heap.size w w' → Q .normal a' w') : ∀ ac, Frm 67 [(2, .pointer (some ⟨gm, 0, none⟩)), (3, .pointer (some ⟨gf, 0, none⟩))] ac → Code.wp Tryd.prog c_ln_r4 Q ac w := by
  refine frm_open ?_
  refine frame_ln ?_
  intros
  rename_i hq
  obtain ⟨-, -, e0q, e1q, -⟩ := hq
  obtain rfl := sI e0q
  obtain rfl := sI e1q
  conv => arg 2; whnf
  have hp := fun (W : World) (g : Nat) => pred_any bDog (.slice (some ⟨g, 0, none⟩) 1 1) W ⟨_, _, _, rfl⟩
  unfold bDog at hp
  have hsm := fun W : World => small_any W
  have hk := fun (W W2 : World) (ms : List Value) (h : mdSmall.In W (Lo W) ms) (hb : Below W.heap.size W W2) => Md.In.keep (w' := W2) (S' := Lo W2) h (fun b h => hb.block b h) (fun b h => Nat.lt_of_lt_of_le h hb.size)
  have HN := Lib.hid hN
  have HP := Lib.hid hp
  have HSM := Lib.hid hsm
  have HC := Lib.hid hc
  have HK := Lib.hid hk
  clear hN hp hsm hc hk
  go_wp2_with fail
  (with_reducible refine (HSM.out _).mono ?_)
  rintro e w1 ⟨A1, c1, B1, d1, rfl, hin1, hb1⟩
  have hin1' := Md.In.keep (S' := Lo w1) hin1 (fun b hb => rfl) (fun b hb => hb.2)
  have HIN1 := Lib.hid hin1'
  have HB1 := Lib.hid hb1
  clear hin1 hin1' hb1
  go_wp2_with fail
  (with_reducible refine (HP.out _ _).mono ?_)
  rintro e w2 ⟨rfl, hb2⟩
  have hz1 := HB1.out.size
  have hz2 := hb2.size
  have hg2 := (hb2.block w1.heap.size (by simp)).trans (heap_alloc_new _ _)
  have hB12 : Below w1.heap.size w1 w2 := (show Below w1.heap.size w1 _ by go_grown).trans (hb2.mono (by simp))
  have hB2 : Below w.heap.size w w2 := HB1.out.trans (hB12.mono hz1)
  have HIN2 := Lib.hid (HK.out _ _ _ HIN1.out hB12)
  have hr2 : fmRep.R w2 (Lo w2) (Fv.pred bDog [⟨#[107, 105, 109]⟩]).fm [.int .i64 2, .string ⟨#[100, 111, 103]⟩, .slice (some ⟨w1.heap.size, 0, none⟩) 1 1, .slice none 0 0] := dog_rep (by decide +kernel) hg2 (by have := lt_heap hg2; exact this)
  have HR2 := Lib.hid hr2
  have HB2 := Lib.hid hB2
  clear hb2 hg2 hB12 hB2 hr2 hz2 hz1
  have HRX := Lib.hid (show fmRep.R w2 (Lo w2) exDog.fm _ from HR2.out)
  go_wp2_with fail
  (with_reducible refine (HC.out w2 _ _ HIN2.out HRX.out HB2.out).mono ?_)
  rintro e w9 ⟨rfl, hb9⟩
  have hz2 := HB2.out.size
  have HB9 := Lib.hid (HB2.out.trans (hb9.mono hz2))
  clear hb9 hz2
  go_wp2_with fail
  have hz9 := HB9.out.size
  exact HN.out w9.heap.size _ _ (id ⟨rfl, rfl, rfl, rfl, rfl, rfl, trivial⟩) (heap_at rfl) (HB9.out.alloc hz9 _)
noncomputable def c_ln_r5 : Code := sub [1, 1, 0, 1, 0] (Tryd.f4.body.getD .skip)
set_option maxRecDepth 1000000 in
set_option maxHeartbeats 16000000 in
theorem ln_r5_wp {Q : Exit → Act → World → Prop} {gm gf : Nat} {ge : Nat} {w : World} (g0 : w.cell? ⟨0, 0, none⟩ = some (.int .i64 0)) (g1 : w.cell? ⟨0, 1, none⟩ = some (.int .i64 0)) (he : w.heap[ge]? = some (.cells #[.int .i64 0, .int .i64 0] 31 (0, 0))) (hN : ∀ a', Frm 67 [(2, .pointer (some ⟨gm, 0, none⟩)), (3, .pointer (some ⟨gf, 0, none⟩)), (40, .bool false)] a' → Q .normal a' w) : ∀ ac, Frm 67 [(2, .pointer (some ⟨gm, 0, none⟩)), (3, .pointer (some ⟨gf, 0, none⟩)), (7, .bool true), (8, .pointer (some ⟨ge, 0, none⟩))] ac → Code.wp Tryd.prog c_ln_r5 Q ac w := by
  refine frm_open ?_
  refine frame_ln ?_
  intros
  rename_i hq
  obtain ⟨-, -, e0q, e1q, e2q, e3q, -⟩ := hq
  obtain rfl := sI e0q
  obtain rfl := sI e1q
  obtain rfl := sI e2q
  obtain rfl := sI e3q
  conv => arg 2; whnf
  have e0 := cellv he 0 rfl
  have e1 := cellv he 1 rfl
  have el := lt_heap he
  have lg := World.block_lt_of_cell? w _ g0
  clear he
  have HN := Lib.hid hN
  clear hN
  go_wp2_with fail
  exact HN.out _ (id ⟨rfl, rfl, rfl, rfl, rfl, trivial⟩)
noncomputable def c_ln_r7 : Code := sub [1, 1, 1, 0] (Tryd.f4.body.getD .skip)
set_option maxRecDepth 1000000 in
set_option maxHeartbeats 16000000 in
theorem ln_r7_wp {Q : Exit → Act → World → Prop} {bb : Bool} {c j : Int} {z : Int} {Am Bm : Option Addr} {nm1 cm nm2 dm : Nat} {kd : Int} {nm : ByteArray} {A B : Option Addr} {n1 c1 n2 c2 : Nat} {gm gf : Nat} {w : World} (hgm : w.heap[gm]? = some (.cells #[.int .i64 z, .slice Am nm1 cm, .slice Bm nm2 dm] 25 (0, 0))) (ha : w.heap[gf]? = some (.cells #[.int .i64 kd, .string nm, .slice A n1 c1, .slice B n2 c2] 29 (0, 0))) (hc : Calls Tryd.prog 15 #[.agg #[.int .i64 z, .slice Am nm1 cm, .slice Bm nm2 dm], .agg #[.int .i64 kd, .string nm, .slice A n1 c1, .slice B n2 c2]] w fun e w' => e = .returned (.tuple #[.bool bb, .agg #[.int .i64 c, .int .i64 j]]) ∧ Below w.heap.size w w') (hN : ∀ ge a' w', Frm 67 [(2, .pointer (some ⟨gm, 0, none⟩)), (3, .pointer (some ⟨gf, 0, none⟩)), (9, .bool bb), (10, .pointer (some ⟨ge, 0, none⟩))] a' → w'.heap[ge]? = some (.cells #[.int .i64 c, .int .i64 j] 31 (0, 0)) → Below w.heap.size w w' → Q .normal a' w') : ∀ ac, Frm 67 [(2, .pointer (some ⟨gm, 0, none⟩)), (3, .pointer (some ⟨gf, 0, none⟩))] ac → Code.wp Tryd.prog c_ln_r7 Q ac w := by
  refine frm_open ?_
  refine frame_ln ?_
  intros
  rename_i hq
  obtain ⟨-, -, e0q, e1q, -⟩ := hq
  obtain rfl := sI e0q
  obtain rfl := sI e1q
  conv => arg 2; whnf
  have m0 := cellv hgm 0 rfl
  have m1 := cellv hgm 1 rfl
  have m2 := cellv hgm 2 rfl
  have ml := lt_heap hgm
  have a0 := cellv ha 0 rfl
  have a1 := cellv ha 1 rfl
  have a2 := cellv ha 2 rfl
  have a3 := cellv ha 3 rfl
  have al := lt_heap ha
  clear hgm ha
  have HN := Lib.hid hN
  have HC := Lib.hid hc
  clear hN hc
  go_wp2_with fail
  (with_reducible refine HC.out.mono ?_)
  rintro e w1 ⟨rfl, hb1⟩
  have HB1 := Lib.hid hb1
  clear hb1
  go_wp2_with fail
  have hz := HB1.out.size
  exact HN.out w1.heap.size _ _ (id ⟨rfl, rfl, rfl, rfl, rfl, rfl, trivial⟩) (heap_at rfl) (HB1.out.alloc hz _)
noncomputable def c_ln_r8 : Code := sub [1, 1, 1, 1, 0] (Tryd.f4.body.getD .skip)
set_option maxRecDepth 1000000 in
set_option maxHeartbeats 16000000 in
theorem ln_r8_wp {K : Act → World → Prop} {bb b1 : Bool} {c j : Int} {gm gf gx : Nat} {t : Fm} {z : Int} {Am Bm : Option Addr} {nm1 cm nm2 dm : Nat} {kd : Int} {nm : ByteArray} {A B : Option Addr} {n1 c1 n2 c2 : Nat} {w : World} (hgm : w.heap[gm]? = some (.cells #[.int .i64 z, .slice Am nm1 cm, .slice Bm nm2 dm] 25 (0, 0))) (ha : w.heap[gf]? = some (.cells #[.int .i64 kd, .string nm, .slice A n1 c1, .slice B n2 c2] 29 (0, 0))) (hr : fmRep.R w (Lo w) t [.int .i64 kd, .string nm, .slice A n1 c1, .slice B n2 c2]) (hc : ∀ (W : World) (cs : List Value), fmRep.R W (Lo W) (.mk ⟨4, ⟨#[]⟩, []⟩ [t]) cs → Below w.heap.size w W → Calls Tryd.prog 15 #[.agg #[.int .i64 z, .slice Am nm1 cm, .slice Bm nm2 dm], .agg cs.toArray] W fun e w' => e = .returned (.tuple #[.bool bb, .agg #[.int .i64 c, .int .i64 j]]) ∧ Below W.heap.size W w') (hN : ∀ ge a' w', Frm 67 [(2, .pointer (some ⟨gm, 0, none⟩)), (3, .pointer (some ⟨gf, 0, none⟩)), (9, .bool b1), (10, .pointer (some ⟨gx, 0, none⟩)), (11, .bool bb), (12, .pointer (some ⟨ge, 0, none⟩))] a' → w'.heap[ge]? = some (.cells #[.int .i64 c, .int .i64 j] 31 (0, 0)) → Below w.heap.size w w' → K a' w') : ∀ ac, Frm 67 [(2, .pointer (some ⟨gm, 0, none⟩)), (3, .pointer (some ⟨gf, 0, none⟩)), (9, .bool b1), (10, .pointer (some ⟨gx, 0, none⟩))] ac → Code.wp Tryd.prog c_ln_r8 (Exit.then K (fun _ _ _ => False)) ac w := by
  refine frm_open ?_
  refine frame_ln ?_
  intros
  rename_i hq
  obtain ⟨-, -, e0q, e1q, e2q, e3q, -⟩ := hq
  obtain rfl := sI e0q
  obtain rfl := sI e1q
  obtain rfl := sI e2q
  obtain rfl := sI e3q
  conv => arg 2; whnf
  have hno := fun (W : World) => notT_any kd nm A n1 c1 B n2 c2 W
  have m0 := cellv hgm 0 rfl
  have m1 := cellv hgm 1 rfl
  have m2 := cellv hgm 2 rfl
  have ml := lt_heap hgm
  have a0 := cellv ha 0 rfl
  have a1 := cellv ha 1 rfl
  have a2 := cellv ha 2 rfl
  have a3 := cellv ha 3 rfl
  have al := lt_heap ha
  clear hgm ha
  have HN := Lib.hid hN
  have HC := Lib.hid hc
  have HNO := Lib.hid hno
  have HR := Lib.hid hr
  clear hN hc hno hr
  go_region_held3 (fun w' => w'.cell? ⟨gm, 0, none⟩ = some (.int .i64 z) ∧ w'.cell? ⟨gm, 1, none⟩ = some (.slice Am nm1 cm) ∧ w'.cell? ⟨gm, 2, none⟩ = some (.slice Bm nm2 dm) ∧ w'.cell? ⟨gf, 0, none⟩ = some (.int .i64 kd) ∧ w'.cell? ⟨gf, 1, none⟩ = some (.string nm) ∧ w'.cell? ⟨gf, 2, none⟩ = some (.slice A n1 c1) ∧ w'.cell? ⟨gf, 3, none⟩ = some (.slice B n2 c2))
    ((first | (go_keep; done) | (go_split_ands; (repeat' apply And.intro) <;> (refine (kc5 _ _ (by omega)).trans ?_; assumption)) | (go_split_ands; (repeat' apply And.intro) <;> (refine (cell_keep (heap_far _ (by omega) (heap_far _ (by omega) rfl)) _).trans ((kc5 _ _ (by omega)).trans ?_); assumption)) | (go_split_ands; (repeat' apply And.intro) <;> (refine (kc4 _ _ (by omega)).trans ?_; assumption))))
    (first
      | ((with_reducible refine (HNO.out _).mono ?_); rintro e w4 ⟨g4, rfl, hg4, hgl4, hw4⟩; have hB4 : Below w.heap.size w w4 := (show Below w.heap.size w _ by go_grown).trans (hw4.mono (by first | exact Nat.le_refl _ | (simp; done) | (simp; omega) | omega)); have kc4 : ∀ k q, k < w.heap.size → w4.cell? ⟨k, q, none⟩ = w.cell? ⟨k, q, none⟩ := (fun k q h => hB4.cell (p := ⟨k, q, none⟩) h); (first | (have p4 : w4.heap[w.heap.size]? = some (.cells #[.int .i64 0, .int .i64 0] 31 (0, 0)) := (hw4.block w.heap.size (by simp)).trans (by first | exact heap_drew (heap_alloc_new w _) | exact heap_alloc_new w _ | exact heap_alloc_new w.drew _); have P4 := Lib.hid p4; clear p4) | skip); have HR4 := Lib.hid (kid1_rep (S := Lo w4) (k := 4) (x := ⟨#[]⟩) (by decide +kernel) (fmRep.keep (w' := w4) (S' := Lo w4) HR.out (fun b hb => hB4.block b hb) (fun b hb => Nat.lt_of_lt_of_le hb hB4.size)) hg4 (by have := lt_heap hg4; exact this)); have hz4 : w.heap.size ≤ w4.heap.size := hB4.size; have HB4 := Lib.hid hB4; clear hg4 hgl4 hw4 hB4)
      | ((with_reducible refine (HC.out _ _ ?hrp ?hbel).mono ?_); (case hrp => first | exact HR4.out | exact fmRep.keep HR4.out (fun b hb => heap_old hb rfl) (fun b hb => by have : b < w4.heap.size := hb; show b < _; simp; omega)); (case hbel => first | exact HB4.out | exact HB4.out.alloc hz4 _); rintro e w5 ⟨rfl, hw5⟩; have hB5 : Below w.heap.size w w5 := (by first | exact HB4.out.trans (hw5.mono (by have := HB4.out.size; omega)) | exact (HB4.out.alloc hz4 _).trans (hw5.mono (by simp; omega))); have kc5 : ∀ k q, k < w.heap.size → w5.cell? ⟨k, q, none⟩ = w.cell? ⟨k, q, none⟩ := (fun k q h => hB5.cell (p := ⟨k, q, none⟩) h); (first | (have p5 : w5.heap[w4.heap.size]? = some (.cells #[.int .i64 0, .int .i64 0] 31 (0, 0)) := (hw5.block w4.heap.size (by simp)).trans (heap_alloc_new w4 _); have p5_0 := cellv p5 0 rfl; have p5_1 := cellv p5 1 rfl; have p5_2 := free_heap p5 0; have p5_3 := free_heap p5 1; have p5_4 := lt_heap p5; have P5 := Lib.hid p5; clear p5) | (have p5 : w5.heap[w.heap.size]? = some (.cells #[.int .i64 0, .int .i64 0] 31 (0, 0)) := (hw5.block w.heap.size (by have := lt_heap P4.out; omega)).trans P4.out; have p5_0 := cellv p5 0 rfl; have p5_1 := cellv p5 1 rfl; have p5_2 := free_heap p5 0; have p5_3 := free_heap p5 1; have p5_4 := lt_heap p5; have P5 := Lib.hid p5; clear p5) | skip); have hz5 : w4.heap.size ≤ w5.heap.size := (by have := hw5.size; first | omega | (simp at this; omega)); have HB5 := Lib.hid hB5; clear hw5 hB5)
      | fail)
  all_goals go_wp2_with fail
  all_goals first
    | exact HN.out _ _ _ (id ⟨rfl, rfl, rfl, rfl, rfl, rfl, rfl, rfl, trivial⟩) (at2 P5.out) ((HB5.out.setCell (by first | exact Nat.le_refl _ | omega) _).setCell (by first | exact Nat.le_refl _ | omega) _)
    | exact HN.out w5.heap.size _ _ (id ⟨rfl, rfl, rfl, rfl, rfl, rfl, rfl, rfl, trivial⟩) (heap_alloc_new _ _) (HB5.out.alloc (by have := HB5.out.size; omega) _)
noncomputable def c_ln_r9a : Code := sub [1, 1, 1, 1, 1, 0] (Tryd.f4.body.getD .skip)
set_option maxRecDepth 1000000 in
set_option maxHeartbeats 16000000 in
theorem ln_r9a_wp {Q : Exit → Act → World → Prop} {b1 b2 : Bool} {gx gy : Nat} {c j d i : Int} {w : World} (g0 : w.cell? ⟨0, 0, none⟩ = some (.int .i64 0)) (g1 : w.cell? ⟨0, 1, none⟩ = some (.int .i64 0)) (hcz : c ≠ 0) (he : w.heap[gx]? = some (.cells #[.int .i64 c, .int .i64 j] 31 (0, 0))) (hf : w.heap[gy]? = some (.cells #[.int .i64 d, .int .i64 i] 31 (0, 0))) (hN : ∀ a', Frm 67 [(4, .bool true)] a' → Q .normal a' w) : ∀ ac, Frm 67 [(9, .bool b1), (10, .pointer (some ⟨gx, 0, none⟩)), (11, .bool b2), (12, .pointer (some ⟨gy, 0, none⟩))] ac → Code.wp Tryd.prog c_ln_r9a Q ac w := by
  refine frm_open ?_
  refine frame_ln ?_
  intros
  rename_i hq
  obtain ⟨-, -, e0q, e1q, e2q, e3q, -⟩ := hq
  obtain rfl := sI e0q
  obtain rfl := sI e1q
  obtain rfl := sI e2q
  obtain rfl := sI e3q
  conv => arg 2; whnf
  have e0 := cellv he 0 rfl
  have e1 := cellv he 1 rfl
  have el := lt_heap he
  have f0 := cellv hf 0 rfl
  have f1 := cellv hf 1 rfl
  have fl := lt_heap hf
  have lg := World.block_lt_of_cell? w _ g0
  clear he hf
  have t1 : (c == 0) = false := beq_eq_false_iff_ne.2 hcz
  have HN := Lib.hid hN
  clear hN
  go_wp2_with fail
  exact HN.out _ (id ⟨rfl, rfl, rfl, trivial⟩)
noncomputable def c_ln_r9b : Code := sub [1, 1, 1, 1, 1, 0] (Tryd.f4.body.getD .skip)
set_option maxRecDepth 1000000 in
set_option maxHeartbeats 16000000 in
theorem ln_r9b_wp {Q : Exit → Act → World → Prop} {b1 b2 : Bool} {gx gy : Nat} {d i : Int} {w : World} (g0 : w.cell? ⟨0, 0, none⟩ = some (.int .i64 0)) (g1 : w.cell? ⟨0, 1, none⟩ = some (.int .i64 0)) (hcz : d ≠ 0) (he : w.heap[gx]? = some (.cells #[.int .i64 0, .int .i64 0] 31 (0, 0))) (hf : w.heap[gy]? = some (.cells #[.int .i64 d, .int .i64 i] 31 (0, 0))) (hN : ∀ a', Frm 67 [(4, .bool true)] a' → Q .normal a' w) : ∀ ac, Frm 67 [(9, .bool b1), (10, .pointer (some ⟨gx, 0, none⟩)), (11, .bool b2), (12, .pointer (some ⟨gy, 0, none⟩))] ac → Code.wp Tryd.prog c_ln_r9b Q ac w := by
  refine frm_open ?_
  refine frame_ln ?_
  intros
  rename_i hq
  obtain ⟨-, -, e0q, e1q, e2q, e3q, -⟩ := hq
  obtain rfl := sI e0q
  obtain rfl := sI e1q
  obtain rfl := sI e2q
  obtain rfl := sI e3q
  conv => arg 2; whnf
  have e0 := cellv he 0 rfl
  have e1 := cellv he 1 rfl
  have el := lt_heap he
  have f0 := cellv hf 0 rfl
  have f1 := cellv hf 1 rfl
  have fl := lt_heap hf
  have lg := World.block_lt_of_cell? w _ g0
  clear he hf
  have t1 : (d == 0) = false := beq_eq_false_iff_ne.2 hcz
  have HN := Lib.hid hN
  clear hN
  go_wp2_with fail
  exact HN.out _ (id ⟨rfl, rfl, rfl, trivial⟩)
noncomputable def c_ln_r9c : Code := sub [1, 1, 1, 1, 1, 0] (Tryd.f4.body.getD .skip)
set_option maxRecDepth 1000000 in
set_option maxHeartbeats 16000000 in
theorem ln_r9c_wp {Q : Exit → Act → World → Prop} {b1 b2 : Bool} {gx gy : Nat} {w : World} (g0 : w.cell? ⟨0, 0, none⟩ = some (.int .i64 0)) (g1 : w.cell? ⟨0, 1, none⟩ = some (.int .i64 0)) (hbb : (b1 != b2) = true) (he : w.heap[gx]? = some (.cells #[.int .i64 0, .int .i64 0] 31 (0, 0))) (hf : w.heap[gy]? = some (.cells #[.int .i64 0, .int .i64 0] 31 (0, 0))) (hN : ∀ a', Frm 67 [(4, .bool true)] a' → Q .normal a' w) : ∀ ac, Frm 67 [(9, .bool b1), (10, .pointer (some ⟨gx, 0, none⟩)), (11, .bool b2), (12, .pointer (some ⟨gy, 0, none⟩))] ac → Code.wp Tryd.prog c_ln_r9c Q ac w := by
  refine frm_open ?_
  refine frame_ln ?_
  intros
  rename_i hq
  obtain ⟨-, -, e0q, e1q, e2q, e3q, -⟩ := hq
  obtain rfl := sI e0q
  obtain rfl := sI e1q
  obtain rfl := sI e2q
  obtain rfl := sI e3q
  conv => arg 2; whnf
  have e0 := cellv he 0 rfl
  have e1 := cellv he 1 rfl
  have el := lt_heap he
  have f0 := cellv hf 0 rfl
  have f1 := cellv hf 1 rfl
  have fl := lt_heap hf
  have lg := World.block_lt_of_cell? w _ g0
  clear he hf
  cases b1 <;> cases b2
  · exact absurd hbb (by decide)
  · clear hbb
    have HN := Lib.hid hN
    clear hN
    go_wp2_with fail
    exact HN.out _ (id ⟨rfl, rfl, rfl, trivial⟩)
  · clear hbb
    have HN := Lib.hid hN
    clear hN
    go_wp2_with fail
    exact HN.out _ (id ⟨rfl, rfl, rfl, trivial⟩)
  · exact absurd hbb (by decide)
set_option maxRecDepth 1000000 in
theorem ln_ret_wp {R : Ending → World → Prop} {w' : World} {bb : Bool} (hR : R (.returned (.bool bb)) w') : ∀ ac, Frm 67 [(4, .bool bb)] ac → bodyPost Tryd.prog Tryd.f4 R .ret ac w' := by
  refine frm_open ?_
  refine frame_ln ?_
  intros
  rename_i hq
  obtain ⟨-, -, e0q, -⟩ := hq
  obtain rfl := sI e0q
  refine bodyPost_ret (v := .bool bb) (by simp [results, Tryd.results4, go_sem]) rfl ?_
  exact hR
end

end Go.Proofs.YtflcbbikfdahhaaDoor
