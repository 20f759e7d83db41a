/-
  The laws' small makers of terms (constant, app, identity): the walks.
-/
import Derived.Test.YthflahcnkhmpaaaDoorProg
import Derived.Test.YthflahcnkhmpaaaDoorApply
namespace Go.Proofs.YthflahcnkhmpaaaDoor
open Go Go.RowKit
set_option linter.unusedSimpArgs false
set_option linter.unusedVariables false

/-- One part in a block of its own. -/
theorem Tm.one_lit {W : World} {S : Nat → Prop} {x : Tm} {ds : List Value} {blk : Nat} {T : TypeId} {fr : Nat × Nat} (hx : tmRep.R W S x ds) (hb : W.heap[blk]? = some (.cells ds.toArray T fr)) (hS : S blk) :
    tmRep.Sl W S (.slice (some ⟨blk, 0, none⟩) 1 1) [x] :=
  ⟨_, 1, 1, rfl, rfl, by simp [maxLen], fun _ => ⟨blk, 0, ds, rfl, hS, Rep.All.single hx, fun j u hj => by rw [Nat.zero_add]; exact cell_heap hb (by simpa using hj)⟩⟩
theorem Tm.two_lit {W : World} {S : Nat → Prop} {f x : Tm} {cs ds : List Value} {blk : Nat} {T : TypeId} {fr : Nat × Nat} (hf : tmRep.R W S f cs) (hx : tmRep.R W S x ds) (hb : W.heap[blk]? = some (.cells (cs ++ ds).toArray T fr)) (hS : S blk) :
    tmRep.Sl W S (.slice (some ⟨blk, 0, none⟩) 2 2) [f, x] :=
  ⟨_, 2, 2, rfl, rfl, by simp [maxLen], fun _ => ⟨blk, 0, cs ++ ds, rfl, hS, ⟨cs, ds, rfl, hf, Rep.All.single hx⟩, fun j u hj => by rw [Nat.zero_add]; exact cell_heap hb (by simpa using hj)⟩⟩

def tmConst (nm : ByteArray) (t : Ty) : Tm := .mk ⟨1, nm, 0, t⟩ []
def tmApp (f x : Tm) : Tm := .mk ⟨4, bNil, 0, noTy⟩ [f, x]

set_option maxRecDepth 100000 in
theorem constant_any (nm : ByteArray) (t : Ty) (v0 v1 : Value) (w : World) (S : Nat → Prop) (hn : nm.size ≤ maxLen) (ht : t.In w S v0 v1) (hS : ∀ b, S b → b < w.heap.size) :
    Calls Tryd.prog 30 #[.string nm, .agg #[v0, v1]] w fun e w' => e = .returned (.agg #[.int .i64 1, .string nm, .int .i64 0, v0, v1, .slice none 0 0]) ∧
      tmRep.R w' S (tmConst nm t) [.int .i64 1, .string nm, .int .i64 0, v0, v1, .slice none 0 0] ∧ Below w.heap.size w w' := by
  obtain ⟨sa, Aa, na, ca, rfl, rfl⟩ := ht.shape
  have HN := Lib.hid hn
  have HT := Lib.hid ht
  have HS := Lib.hid hS
  clear hn ht hS
  go_enter Tryd.func30, Tryd.ntmps30
  go_wp2_with fail
  refine bodyPost_ret (v := .agg #[.int .i64 1, .string nm, .int .i64 0, .string sa, .slice Aa na ca, .slice none 0 0]) (by simp [results, Tryd.results30, go_sem]) rfl ?_
  refine ⟨rfl, Tm.shut (a := ⟨1, nm, 0, t⟩) (l := []) HN.out ?_ Rep.Sl.nil, by go_grown⟩
  exact HT.out.keep (fun b hb => heap_old (by have := HS.out b hb; simp; omega) (heap_old (HS.out b hb) rfl))

set_option maxRecDepth 100000 in
theorem app_any (f x : Tm) (cs ds : List Value) (w : World) (S : Nat → Prop) (hf : tmRep.R w S f cs) (hx : tmRep.R w S x ds) (hS : ∀ b, S b → b < w.heap.size) :
    Calls Tryd.prog 33 #[.agg cs.toArray, .agg ds.toArray] w fun e w' => ∃ es, e = .returned (.agg es.toArray) ∧ tmRep.R w' (Ex S w w') (tmApp f x) es ∧ Below w.heap.size w w' := by
  obtain ⟨s1, A1, n1, c1, B1, m1, d1, rfl, _, _⟩ := Tm.shape hf
  obtain ⟨s2, A2, n2, c2, B2, m2, d2, rfl, _, _⟩ := Tm.shape hx
  have HF := Lib.hid hf
  have HX := Lib.hid hx
  have HS := Lib.hid hS
  clear hf hx hS
  go_enter Tryd.func33, Tryd.ntmps33
  go_wp2_with fail
  refine bodyPost_ret (v := .agg #[.int .i64 4, .string ⟨#[]⟩, .int .i64 0, .string ⟨#[]⟩, .slice none 0 0, .slice (some ⟨w.heap.size + 1 + 1 + 1, 0, none⟩) 2 2]) (by simp [results, Tryd.results33, go_sem]) rfl ?_
  have hold : ∀ (o p q r : Obj) k, S k → ((((w.alloc o).alloc p).alloc q).alloc r).heap[k]? = w.heap[k]? := fun o p q r k hk => by
    have := HS.out k hk
    exact heap_old (by simp; omega) (heap_old (by simp; omega) (heap_old (by simp; omega) (heap_old this rfl)))
  refine ⟨[.int .i64 4, .string bNil, .int .i64 0, .string ⟨#[]⟩, .slice none 0 0, .slice (some ⟨w.heap.size + 1 + 1 + 1, 0, none⟩) 2 2], rfl, Tm.shut (a := ⟨4, bNil, 0, noTy⟩) (l := [f, x]) (by decide +kernel) (Ty.In.mk_ (by decide +kernel) rfl (by omega) (by omega)) ?_, by go_grown⟩
  exact Tm.two_lit (cs := [.int .i64 f.lab.kind, .string f.lab.nm, .int .i64 f.lab.ix, .string s1, .slice A1 n1 c1, .slice B1 m1 d1]) (ds := [.int .i64 x.lab.kind, .string x.lab.nm, .int .i64 x.lab.ix, .string s2, .slice A2 n2 c2, .slice B2 m2 d2]) (tmRep.keep HF.out (hold _ _ _ _) (fun _ h => Or.inl h)) (tmRep.keep HX.out (hold _ _ _ _) (fun _ h => Or.inl h)) (heap_at (by simp)) (Or.inr ⟨by omega, by simp⟩)

def tvId : Tv := .abs .e (.var 0)
/-- What identity returns. -/
def IdAt (w : World) (e : Ending) (w' : World) : Prop := ∃ es : List Value, e = .returned (.agg es.toArray) ∧ tmRep.R w' (Fresh w w') tvId.tm es ∧ Below w.heap.size w w'

set_option maxRecDepth 100000 in
set_option maxHeartbeats 400000 in
theorem identity_any (w : World) :
    Calls Tryd.prog 39 #[] w (IdAt w) := by
  go_enter Tryd.func39, Tryd.ntmps39
  go_upto_region 1 with (fail)
  go_cut [] (fun wx => ∃ es : List Value, tmRep.R wx (Fresh w wx) tvId.tm es ∧ wx.heap[w.heap.size]? = some (.cells es.toArray 49 (0, 0)) ∧ Below w.heap.size w wx)
  case first =>
    go_wp2_with fail
    refine (base_any _ _ (by decide +kernel)).mono ?_
    rintro e w1 ⟨rfl, h1, hw1⟩
    clear h1
    have z1 : w.heap.size + 1 ≤ w1.heap.size := by have := hw1.size; simpa using this
    have h0 := (hw1.block w.heap.size (by simp)).trans (heap_at rfl)
    have hB : Below w.heap.size w w1 := ((Below.refl _ w).alloc (Nat.le_refl _) _).trans (hw1.mono (by simp))
    have HW1 := Lib.hid hw1
    have HB := Lib.hid hB
    clear hw1 hB
    have h0_0 := cv0 h0
    have h0_1 := cv1 h0
    have h0_2 := cv2 h0
    have h0_3 := cv3 h0
    have h0_4 := cv4 h0
    have h0_5 := cv5 h0
    have h0_f0 := free_heap h0 0
    have h0_f1 := free_heap h0 1
    have h0_f2 := free_heap h0 2
    have h0_f3 := free_heap h0 3
    have h0_f4 := free_heap h0 4
    have h0_f5 := free_heap h0 5
    have h0_l := lt_heap h0
    have H0 := Lib.hid h0
    clear h0
    go_wp2_with fail
    go_meet
    refine ⟨[.int .i64 3, .string bNil, .int .i64 0, .string bE, .slice none 0 0, .slice (some ⟨w1.heap.size, 0, none⟩) 1 1], ?_, ?_, ?_⟩
    · have hv : ∀ (W : World) (S : Nat → Prop), tmRep.R W S (Tv.var 0).tm [.int .i64 2, .string ⟨#[]⟩, .int .i64 0, .string ⟨#[]⟩, .slice none 0 0, .slice none 0 0] := fun W S =>
        Tm.shut (a := ⟨2, bNil, ((0 : Nat) : Int), noTy⟩) (l := []) (by decide +kernel) (Ty.In.mk_ (by decide +kernel) rfl (by omega) (by omega)) Rep.Sl.nil
      exact Tm.shut (a := ⟨3, bNil, 0, Sy.e.ty⟩) (l := [(Tv.var 0).tm]) (by decide +kernel) (Ty.In.mk_ (by decide +kernel) rfl (by omega) (by omega))
        (Tm.one_lit (hv _ _) (heap_at size6.symm) ⟨by omega, by rw [World.size_alloc]; exact Nat.lt_succ_of_le (Nat.le_of_eq size6.symm)⟩)
    · exact heap_old (lt6 h0_l) (at6 H0.out)
    · exact (below6 HB.out (Nat.le_refl _)).alloc (le6 (by omega)) _
  case rest =>
    obtain ⟨es, hu, k0, hb⟩ := hcut
    rename World => wx
    obtain ⟨s1, A1, n1, c1, B1, m1, d1, rfl, _, _⟩ := Tm.shape hu
    have hfin : IdAt w (.returned (.agg ([.int .i64 tvId.tm.lab.kind, .string tvId.tm.lab.nm, .int .i64 tvId.tm.lab.ix, .string s1, .slice A1 n1 c1, .slice B1 m1 d1]).toArray)) wx := ⟨_, rfl, hu, hb⟩
    have HU := Lib.hid hu
    have HB := Lib.hid hb
    have HFIN := Lib.hid hfin
    clear hu hb hfin
    have k0_0 := cv0 k0
    have k0_1 := cv1 k0
    have k0_2 := cv2 k0
    have k0_3 := cv3 k0
    have k0_4 := cv4 k0
    have k0_5 := cv5 k0
    have k0_l := lt_heap k0
    have K0 := Lib.hid k0
    clear k0
    go_wp2_with fail
    refine bodyPost_ret (v := .agg #[.int .i64 tvId.tm.lab.kind, .string tvId.tm.lab.nm, .int .i64 tvId.tm.lab.ix, .string s1, .slice A1 n1 c1, .slice B1 m1 d1]) (by simp [results, Tryd.results39, go_sem, k0_0, k0_1, k0_2, k0_3, k0_4, k0_5, k0_l]) rfl ?_
    exact HFIN.out

end Go.Proofs.YthflahcnkhmpaaaDoor
