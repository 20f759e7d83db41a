/-
  The laws' small makers of terms (constant, app, identity): the walks.
-/
import Derived.Test.YthflahcnkhmpaabDoorProg
import Derived.Test.YthflahcnkhmpaabDoorApply
import Derived.Test.YthflahcnkhmpaabDoorLam
namespace Go.Proofs.YthflahcnkhmpaabDoor
open Go Go.RowKit
set_option linter.unusedSimpArgs false
set_option linter.unusedVariables false

/-- One part in a block of its own. -/
theorem Tm.one_lit {W : World} {S : Nat → Prop} {x : Tm} {ds : List Value} {blk : Nat} {T : TypeId} {fr : Nat × Nat} (hx : tmRep.R W S x ds) (hb : W.heap[blk]? = some (.cells ds.toArray T fr)) (hS : S blk) :
    tmRep.Sl W S (.slice (some ⟨blk, 0, none⟩) 1 1) [x] :=
  ⟨_, 1, 1, rfl, rfl, by simp [maxLen], fun _ => ⟨blk, 0, ds, rfl, hS, Rep.All.single hx, fun j u hj => by rw [Nat.zero_add]; exact cell_heap hb (by simpa using hj)⟩⟩
theorem Tm.two_lit {W : World} {S : Nat → Prop} {f x : Tm} {cs ds : List Value} {blk : Nat} {T : TypeId} {fr : Nat × Nat} (hf : tmRep.R W S f cs) (hx : tmRep.R W S x ds) (hb : W.heap[blk]? = some (.cells (cs ++ ds).toArray T fr)) (hS : S blk) :
    tmRep.Sl W S (.slice (some ⟨blk, 0, none⟩) 2 2) [f, x] :=
  ⟨_, 2, 2, rfl, rfl, by simp [maxLen], fun _ => ⟨blk, 0, cs ++ ds, rfl, hS, ⟨cs, ds, rfl, hf, Rep.All.single hx⟩, fun j u hj => by rw [Nat.zero_add]; exact cell_heap hb (by simpa using hj)⟩⟩

def tmConst (nm : ByteArray) (t : Ty) : Tm := .mk ⟨1, nm, 0, t⟩ []
def tmApp (f x : Tm) : Tm := .mk ⟨4, bNil, 0, noTy⟩ [f, x]

set_option maxRecDepth 100000 in
theorem constant_any (nm : ByteArray) (t : Ty) (v0 v1 : Value) (w : World) (S : Nat → Prop) (hn : nm.size ≤ maxLen) (ht : t.In w S v0 v1) (hS : ∀ b, S b → b < w.heap.size) :
    Calls Tryd.prog 22 #[.string nm, .agg #[v0, v1]] w fun e w' => e = .returned (.agg #[.int .i64 1, .string nm, .int .i64 0, v0, v1, .slice none 0 0]) ∧
      tmRep.R w' S (tmConst nm t) [.int .i64 1, .string nm, .int .i64 0, v0, v1, .slice none 0 0] ∧ Below w.heap.size w w' := by
  obtain ⟨sa, Aa, na, ca, rfl, rfl⟩ := ht.shape
  have HN := Lib.hid hn
  have HT := Lib.hid ht
  have HS := Lib.hid hS
  clear hn ht hS
  go_enter Tryd.func22, Tryd.ntmps22
  go_wp2_with fail
  refine bodyPost_ret (v := .agg #[.int .i64 1, .string nm, .int .i64 0, .string sa, .slice Aa na ca, .slice none 0 0]) (by simp [results, Tryd.results22, go_sem]) rfl ?_
  refine ⟨rfl, Tm.shut (a := ⟨1, nm, 0, t⟩) (l := []) HN.out ?_ Rep.Sl.nil, by go_grown⟩
  exact HT.out.keep (fun b hb => heap_old (by have := HS.out b hb; simp; omega) (heap_old (HS.out b hb) rfl))

set_option maxRecDepth 100000 in
theorem app_any (f x : Tm) (cs ds : List Value) (w : World) (S : Nat → Prop) (hf : tmRep.R w S f cs) (hx : tmRep.R w S x ds) (hS : ∀ b, S b → b < w.heap.size) :
    Calls Tryd.prog 35 #[.agg cs.toArray, .agg ds.toArray] w fun e w' => ∃ es, e = .returned (.agg es.toArray) ∧ tmRep.R w' (Ex S w w') (tmApp f x) es ∧ Below w.heap.size w w' := by
  obtain ⟨s1, A1, n1, c1, B1, m1, d1, rfl, _, _⟩ := Tm.shape hf
  obtain ⟨s2, A2, n2, c2, B2, m2, d2, rfl, _, _⟩ := Tm.shape hx
  have HF := Lib.hid hf
  have HX := Lib.hid hx
  have HS := Lib.hid hS
  clear hf hx hS
  go_enter Tryd.func35, Tryd.ntmps35
  go_wp2_with fail
  refine bodyPost_ret (v := .agg #[.int .i64 4, .string ⟨#[]⟩, .int .i64 0, .string ⟨#[]⟩, .slice none 0 0, .slice (some ⟨w.heap.size + 1 + 1 + 1, 0, none⟩) 2 2]) (by simp [results, Tryd.results35, go_sem]) rfl ?_
  have hold : ∀ (o p q r : Obj) k, S k → ((((w.alloc o).alloc p).alloc q).alloc r).heap[k]? = w.heap[k]? := fun o p q r k hk => by
    have := HS.out k hk
    exact heap_old (by simp; omega) (heap_old (by simp; omega) (heap_old (by simp; omega) (heap_old this rfl)))
  refine ⟨[.int .i64 4, .string bNil, .int .i64 0, .string ⟨#[]⟩, .slice none 0 0, .slice (some ⟨w.heap.size + 1 + 1 + 1, 0, none⟩) 2 2], rfl, Tm.shut (a := ⟨4, bNil, 0, noTy⟩) (l := [f, x]) (by decide +kernel) (Ty.In.mk_ (by decide +kernel) rfl (by omega) (by omega)) ?_, by go_grown⟩
  exact Tm.two_lit (cs := [.int .i64 f.lab.kind, .string f.lab.nm, .int .i64 f.lab.ix, .string s1, .slice A1 n1 c1, .slice B1 m1 d1]) (ds := [.int .i64 x.lab.kind, .string x.lab.nm, .int .i64 x.lab.ix, .string s2, .slice A2 n2 c2, .slice B2 m2 d2]) (tmRep.keep HF.out (hold _ _ _ _) (fun _ h => Or.inl h)) (tmRep.keep HX.out (hold _ _ _ _) (fun _ h => Or.inl h)) (heap_at (by simp)) (Or.inr ⟨by omega, by simp⟩)

def tvId : Tv := .abs .e (.var 0)
/-- What identity returns. -/
def IdAt (w : World) (e : Ending) (w' : World) : Prop := ∃ es : List Value, e = .returned (.agg es.toArray) ∧ tmRep.R w' (Fresh w w') tvId.tm es ∧ Below w.heap.size w w'

set_option maxRecDepth 100000 in
set_option maxHeartbeats 400000 in
theorem identity_any (w : World) :
    Calls Tryd.prog 36 #[] w (IdAt w) := by
  go_enter Tryd.func36, Tryd.ntmps36
  go_upto_region 1 with (fail)
  go_cut [] (fun wx => ∃ es : List Value, tmRep.R wx (Fresh w wx) tvId.tm es ∧ wx.heap[w.heap.size]? = some (.cells es.toArray 27 (0, 0)) ∧ Below w.heap.size w wx)
  case first =>
    go_wp2_with fail
    refine (base_any _ _ (by decide +kernel)).mono ?_
    rintro e w1 ⟨rfl, h1, hw1⟩
    clear h1
    have z1 : w.heap.size + 1 ≤ w1.heap.size := by have := hw1.size; simpa using this
    have h0 := (hw1.block w.heap.size (by simp)).trans (heap_at rfl)
    have hB : Below w.heap.size w w1 := ((Below.refl _ w).alloc (Nat.le_refl _) _).trans (hw1.mono (by simp))
    have HW1 := Lib.hid hw1
    have HB := Lib.hid hB
    clear hw1 hB
    have h0_0 := cv0 h0
    have h0_1 := cv1 h0
    have h0_2 := cv2 h0
    have h0_3 := cv3 h0
    have h0_4 := cv4 h0
    have h0_5 := cv5 h0
    have h0_f0 := free_heap h0 0
    have h0_f1 := free_heap h0 1
    have h0_f2 := free_heap h0 2
    have h0_f3 := free_heap h0 3
    have h0_f4 := free_heap h0 4
    have h0_f5 := free_heap h0 5
    have h0_l := lt_heap h0
    have H0 := Lib.hid h0
    clear h0
    go_wp2_with fail
    go_meet
    refine ⟨[.int .i64 3, .string bNil, .int .i64 0, .string bE, .slice none 0 0, .slice (some ⟨w1.heap.size, 0, none⟩) 1 1], ?_, ?_, ?_⟩
    · have hv : ∀ (W : World) (S : Nat → Prop), tmRep.R W S (Tv.var 0).tm [.int .i64 2, .string ⟨#[]⟩, .int .i64 0, .string ⟨#[]⟩, .slice none 0 0, .slice none 0 0] := fun W S =>
        Tm.shut (a := ⟨2, bNil, ((0 : Nat) : Int), noTy⟩) (l := []) (by decide +kernel) (Ty.In.mk_ (by decide +kernel) rfl (by omega) (by omega)) Rep.Sl.nil
      exact Tm.shut (a := ⟨3, bNil, 0, Sy.e.ty⟩) (l := [(Tv.var 0).tm]) (by decide +kernel) (Ty.In.mk_ (by decide +kernel) rfl (by omega) (by omega))
        (Tm.one_lit (hv _ _) (heap_at size6.symm) ⟨by omega, by rw [World.size_alloc]; exact Nat.lt_succ_of_le (Nat.le_of_eq size6.symm)⟩)
    · exact heap_old (lt6 h0_l) (at6 H0.out)
    · exact (below6 HB.out (Nat.le_refl _)).alloc (le6 (by omega)) _
  case rest =>
    obtain ⟨es, hu, k0, hb⟩ := hcut
    rename World => wx
    obtain ⟨s1, A1, n1, c1, B1, m1, d1, rfl, _, _⟩ := Tm.shape hu
    have hfin : IdAt w (.returned (.agg ([.int .i64 tvId.tm.lab.kind, .string tvId.tm.lab.nm, .int .i64 tvId.tm.lab.ix, .string s1, .slice A1 n1 c1, .slice B1 m1 d1]).toArray)) wx := ⟨_, rfl, hu, hb⟩
    have HU := Lib.hid hu
    have HB := Lib.hid hb
    have HFIN := Lib.hid hfin
    clear hu hb hfin
    have k0_0 := cv0 k0
    have k0_1 := cv1 k0
    have k0_2 := cv2 k0
    have k0_3 := cv3 k0
    have k0_4 := cv4 k0
    have k0_5 := cv5 k0
    have k0_l := lt_heap k0
    have K0 := Lib.hid k0
    clear k0
    go_wp2_with fail
    refine bodyPost_ret (v := .agg #[.int .i64 tvId.tm.lab.kind, .string tvId.tm.lab.nm, .int .i64 tvId.tm.lab.ix, .string s1, .slice A1 n1 c1, .slice B1 m1 d1]) (by simp [results, Tryd.results36, go_sem, k0_0, k0_1, k0_2, k0_3, k0_4, k0_5, k0_l]) rfl ?_
    exact HFIN.out


def bKim : ByteArray := ⟨#[107, 105, 109]⟩
def tvKim : Tv := .con bKim .e
def tvRedex : Tv := .app tvId tvKim
theorem kim_ok : okName bKim = true := by decide +kernel
theorem Sy.e_fault : Sy.e.ty.fault = 0 := by unfold Ty.fault; rw [Sy.val_ok .e 1 0 (by decide) (by decide)]
theorem tvId_ok : tvId.ok 0 := ⟨Sy.e_fault, by simp [Tv.ok]⟩
theorem tvKim_ok : tvKim.ok 0 := ⟨kim_ok, Sy.e_fault⟩
theorem tvRedex_ok : tvRedex.ok 0 := ⟨tvId_ok, tvKim_ok⟩
theorem tvRedex_typ : Tv.typ [] tvRedex = some .e := rfl
theorem tvRedex_fault : tmFault tvRedex.tm = (0, 0) := tmFault_ok tvRedex_ok (by decide) (by decide) tvRedex_typ
theorem tvRedex_step : tvRedex.step = some tvKim := rfl
theorem bE_in {W : World} {S : Nat → Prop} : (Ty.mk bE []).In W S (.string ⟨#[101]⟩) (.slice none 0 0) := Ty.In.mk_ (by decide +kernel) rfl (by decide) (by omega)
theorem base_e (W : World) : Calls Tryd.prog 26 #[.string ⟨#[101]⟩] W fun e w' => e = .returned (.agg #[.string ⟨#[101]⟩, .slice none 0 0]) ∧ Below W.heap.size W w' :=
  (base_any _ W (by decide +kernel)).mono fun _ _ h => ⟨h.1, h.2.2⟩
theorem kim_any (W : World) : Calls Tryd.prog 22 #[.string ⟨#[107, 105, 109]⟩, .agg #[.string ⟨#[101]⟩, .slice none 0 0]] W fun e w' =>
    e = .returned (.agg #[.int .i64 1, .string ⟨#[107, 105, 109]⟩, .int .i64 0, .string ⟨#[101]⟩, .slice none 0 0, .slice none 0 0]) ∧ Below W.heap.size W w' :=
  (constant_any _ (.mk bE []) _ _ W (fun _ => False) (by decide +kernel) bE_in (fun _ h => h.elim)).mono fun _ _ h => ⟨h.1, h.2.2⟩
theorem kim_in {W : World} {S : Nat → Prop} : tmRep.R W S tvKim.tm [.int .i64 1, .string ⟨#[107, 105, 109]⟩, .int .i64 0, .string ⟨#[101]⟩, .slice none 0 0, .slice none 0 0] :=
  Tm.shut (a := ⟨1, bKim, 0, Sy.e.ty⟩) (l := []) (by decide +kernel) bE_in Rep.Sl.nil

/-- What redex returns. -/
def RedexAt (w : World) (e : Ending) (w' : World) : Prop := ∃ es : List Value, e = .returned (.agg es.toArray) ∧ tmRep.R w' (Fresh w w') tvRedex.tm es ∧ Below w.heap.size w w'

set_option maxRecDepth 100000 in
set_option maxHeartbeats 4000000 in
theorem redex_any (w : World) :
    Calls Tryd.prog 13 #[] w (RedexAt w) := by
  go_enter Tryd.func13, Tryd.ntmps13
  go_upto_region 1 with (fail)
  go_cut [] (fun wx => ∃ es : List Value, tmRep.R wx (Fresh w wx) tvRedex.tm es ∧ wx.heap[w.heap.size]? = some (.cells es.toArray 27 (0, 0)) ∧ Below w.heap.size w wx)
  case first =>
    go_wp2_with fail
    (with_reducible refine (identity_any _).mono ?_)
    rintro e w1 ⟨es, rfl, h1, hw1⟩
    obtain ⟨s1, A1, n1, c1, B1, m1, d1, rfl, _, _⟩ := Tm.shape h1
    have z1 : w.heap.size + 1 ≤ w1.heap.size := by have := hw1.size; simpa using this
    have p0 := (hw1.block w.heap.size (by simp)).trans (heap_at rfl)
    have hB1 : Below w.heap.size w w1 := ((Below.refl _ w).alloc (Nat.le_refl _) _).trans (hw1.mono (by simp))
    have P0 := Lib.hid p0
    have HB1 := Lib.hid hB1
    have H1 := Lib.hid h1
    have HW1 := Lib.hid hw1
    clear p0 hB1 h1 hw1
    go_wp2_with fail
    (with_reducible refine (base_e _).mono ?_)
    rintro e w2 ⟨rfl, hw2⟩
    have z2 := hw2.size
    have HW2 := Lib.hid hw2
    clear hw2
    go_wp2_with fail
    (with_reducible refine (kim_any _).mono ?_)
    rintro e w3 ⟨rfl, hw3⟩
    have z3 := hw3.size
    have hk : ∀ k, k < w1.heap.size → w3.heap[k]? = w1.heap[k]? := fun k hk => (hw3.block k (by omega)).trans (HW2.out.block k hk)
    have hap := Lib.hid (app_any tvId.tm tvKim.tm [.int .i64 tvId.tm.lab.kind, .string tvId.tm.lab.nm, .int .i64 tvId.tm.lab.ix, .string s1, .slice A1 n1 c1, .slice B1 m1 d1] [.int .i64 1, .string ⟨#[107, 105, 109]⟩, .int .i64 0, .string ⟨#[101]⟩, .slice none 0 0, .slice none 0 0] w3 (fun b => w.heap.size + 1 ≤ b ∧ b < w1.heap.size)
      (tmRep.keep H1.out (fun k h => hk k h.2) (fun k h => ⟨by have := h.1; simpa using this, h.2⟩)) kim_in (fun k h => by have := h.2; omega))
    have hB3 : Below w.heap.size w w3 := HB1.out.trans ((HW2.out.mono (by omega)).trans (hw3.mono (by omega)))
    have p0 := (hk _ (by omega)).trans P0.out
    have HW3 := Lib.hid hw3
    have HAP := Lib.hid hap
    have HB3 := Lib.hid hB3
    clear hw3 hap hB3
    go_wp2_with fail
    (with_reducible refine HAP.out.out.mono ?_)
    rintro e w4 ⟨es, rfl, h4, hw4⟩
    obtain ⟨s4, A4, n4, c4, B4, m4, d4, rfl, _, _⟩ := Tm.shape h4
    have z4 := hw4.size
    have p0 := (hw4.block _ (by omega)).trans p0
    have hB4 := HB3.out.trans (hw4.mono (by omega))
    have H4 := Lib.hid h4
    have HW4 := Lib.hid hw4
    have HB4 := Lib.hid hB4
    clear h4 hw4 hB4
    have p0_0 := cv0 p0
    have p0_1 := cv1 p0
    have p0_2 := cv2 p0
    have p0_3 := cv3 p0
    have p0_4 := cv4 p0
    have p0_5 := cv5 p0
    have p0_f0 := free_heap p0 0
    have p0_f1 := free_heap p0 1
    have p0_f2 := free_heap p0 2
    have p0_f3 := free_heap p0 3
    have p0_f4 := free_heap p0 4
    have p0_f5 := free_heap p0 5
    have p0_l := lt_heap p0
    have P0 := Lib.hid p0
    clear p0
    go_wp2_with fail
    go_meet
    refine ⟨[.int .i64 (tmApp tvId.tm tvKim.tm).lab.kind, .string (tmApp tvId.tm tvKim.tm).lab.nm, .int .i64 (tmApp tvId.tm tvKim.tm).lab.ix, .string s4, .slice A4 n4 c4, .slice B4 m4 d4], tmRep.keep H4.out (fun k hk => far6 ?_ rfl) (fun k hk => ?_), at6 P0.out, below6 HB4.out (Nat.le_refl _)⟩
    · rcases hk with hk | hk
      · have := hk.1; omega
      · have := hk.1; omega
    · rcases hk with hk | hk
      · exact ⟨by have := hk.1; omega, lt6 (by have := hk.2; omega)⟩
      · exact ⟨by have := hk.1; omega, lt6 hk.2⟩
  case rest =>
    obtain ⟨es, hu, k0, hb⟩ := hcut
    rename World => wx
    obtain ⟨s1, A1, n1, c1, B1, m1, d1, rfl, _, _⟩ := Tm.shape hu
    have hfin : RedexAt w (.returned (.agg ([.int .i64 tvRedex.tm.lab.kind, .string tvRedex.tm.lab.nm, .int .i64 tvRedex.tm.lab.ix, .string s1, .slice A1 n1 c1, .slice B1 m1 d1]).toArray)) wx := ⟨_, rfl, hu, hb⟩
    have HU := Lib.hid hu
    have HB := Lib.hid hb
    have HFIN := Lib.hid hfin
    clear hu hb hfin
    have k0_0 := cv0 k0
    have k0_1 := cv1 k0
    have k0_2 := cv2 k0
    have k0_3 := cv3 k0
    have k0_4 := cv4 k0
    have k0_5 := cv5 k0
    have k0_l := lt_heap k0
    have K0 := Lib.hid k0
    clear k0
    go_wp2_with fail
    refine bodyPost_ret (v := .agg #[.int .i64 tvRedex.tm.lab.kind, .string tvRedex.tm.lab.nm, .int .i64 tvRedex.tm.lab.ix, .string s1, .slice A1 n1 c1, .slice B1 m1 d1]) (by simp [results, Tryd.results13, go_sem, k0_0, k0_1, k0_2, k0_3, k0_4, k0_5, k0_l]) rfl ?_
    exact HFIN.out

end Go.Proofs.YthflahcnkhmpaabDoor
