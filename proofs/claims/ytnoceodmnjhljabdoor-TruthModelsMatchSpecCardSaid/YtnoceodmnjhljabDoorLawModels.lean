/-
  The law TruthModelsMatchSpec: the walk.
-/
import Derived.Test.YtnoceodmnjhljabDoorMdVal
import Derived.Test.YtnoceodmnjhljabDoorMdRef
import Derived.Deep.DeepCutAuto
namespace Go.Proofs.YtnoceodmnjhljabDoor
open Go Go.RowKit
set_option linter.unusedSimpArgs false
set_option linter.unusedVariables false

def mdSmall : Md := ⟨1, [⟨⟨#[107, 105, 109]⟩, 0⟩], [⟨⟨#[100, 111, 103]⟩, 1, [[0]]⟩]⟩
theorem mdSmall_ok : mdFault mdSmall = (0, 0) := by decide +kernel
theorem mdZero_bad : mdFault ⟨0, [], []⟩ = (3, 0) := by decide +kernel
/-- A row of one thing in a block of its own. -/
theorem sl_lit {α : Type} {ρ : Rep α} {W : World} {S : Nat → Prop} {x : α} {ds : List Value} {blk : Nat} {T : TypeId} {fr : Nat × Nat} (hx : ρ.R W S x ds) (hb : W.heap[blk]? = some (.cells ds.toArray T fr)) (hS : S blk) :
    ρ.Sl W S (.slice (some ⟨blk, 0, none⟩) 1 1) [x] :=
  ⟨_, 1, 1, rfl, rfl, by simp [maxLen], fun _ => ⟨blk, 0, ds, rfl, hS, Rep.All.single hx, fun j u hj => by rw [Nat.zero_add]; exact cell_heap hb (by simpa using hj)⟩⟩

/-- What is new. -/
def Fr (w w' : World) : Nat → Prop := fun b => w.heap.size ≤ b ∧ b < w'.heap.size
/-- What small leaves. -/
def SmallAt (w : World) (e : Ending) (w' : World) : Prop := ∃ A c B d, e = .returned (.agg #[.int .i64 1, .slice A 1 c, .slice B 1 d]) ∧ mdSmall.In w' (Fr w w') [.int .i64 1, .slice A 1 c, .slice B 1 d] ∧ Below w.heap.size w w'

set_option maxRecDepth 100000 in
set_option maxHeartbeats 4000000 in
theorem small_any (w : World) : Calls Tryd.prog 7 #[] w (SmallAt w) := by
  go_enter Tryd.func7, Tryd.ntmps7
  go_upto_region 1 with (fail)
  go_cut [] (fun wx => mdSmall.In wx (Fr w wx) [.int .i64 1, .slice (some ⟨w.heap.size + 1, 0, none⟩) 1 1, .slice (some ⟨w.heap.size + 4, 0, none⟩) 1 1] ∧ wx.heap[w.heap.size]? = some (.cells #[.int .i64 1, .slice (some ⟨w.heap.size + 1, 0, none⟩) 1 1, .slice (some ⟨w.heap.size + 4, 0, none⟩) 1 1] 25 (0, 0)) ∧ Below w.heap.size w wx)
  case first =>
    go_wp2_with fail
    go_meet
    have hz : ∀ (o1 o2 o3 o4 o5 : Obj), (((((w.alloc o1).alloc o2).alloc o3).alloc o4).alloc o5).heap.size = w.heap.size + 5 := fun _ _ _ _ _ => by simp
    refine ⟨⟨_, _, rfl, sl_lit (ρ := conRep) (x := ⟨⟨#[107, 105, 109]⟩, 0⟩) (ds := [.string ⟨#[107, 105, 109]⟩, .int .i64 0]) (T := 44) (fr := (0, 0)) ⟨rfl, by decide +kernel⟩ ?k1 ⟨by omega, by rw [hz]; omega⟩,
      sl_lit (ρ := relRep) (x := ⟨⟨#[100, 111, 103]⟩, 1, [[0]]⟩) (ds := [.string ⟨#[100, 111, 103]⟩, .int .i64 1, .slice (some ⟨w.heap.size + 3, 0, none⟩) 1 1]) (T := 48) (fr := (0, 0)) ⟨_, rfl, by decide +kernel,
        sl_lit (ρ := intsRep) (x := [0]) (ds := [.slice (some ⟨w.heap.size + 2, 0, none⟩) 1 1]) (T := 50) (fr := (0, 0)) ⟨_, rfl, sl_lit (ρ := zRep) (x := 0) (ds := [.int .i64 0]) (T := 3) (fr := (0, 0)) rfl ?k2 ⟨by omega, by rw [hz]; omega⟩⟩ ?k3 ⟨by omega, by rw [hz]; omega⟩⟩ ?k4 ⟨by omega, by rw [hz]; omega⟩⟩, ?k0, by go_grown⟩
    case k1 => exact heap_old (by first | (simp; done) | (simp; omega)) (heap_old (by first | (simp; done) | (simp; omega)) (heap_old (by first | (simp; done) | (simp; omega)) (heap_at (by first | (simp; done) | (simp; omega)))))
    case k2 => exact heap_old (by first | (simp; done) | (simp; omega)) (heap_old (by first | (simp; done) | (simp; omega)) (heap_at (by first | (simp; done) | (simp; omega))))
    case k3 => exact heap_old (by first | (simp; done) | (simp; omega)) (heap_at (by first | (simp; done) | (simp; omega)))
    case k4 => exact heap_at (by first | (simp; done) | (simp; omega))
    case k0 => exact heap_old (by first | (simp; done) | (simp; omega)) (heap_old (by first | (simp; done) | (simp; omega)) (heap_old (by first | (simp; done) | (simp; omega)) (heap_old (by first | (simp; done) | (simp; omega)) (heap_at rfl))))
  case rest =>
    obtain ⟨hin, k0, hb⟩ := hcut
    rename World => wx
    have hfin : SmallAt w (.returned (.agg #[.int .i64 1, .slice (some ⟨w.heap.size + 1, 0, none⟩) 1 1, .slice (some ⟨w.heap.size + 4, 0, none⟩) 1 1])) wx := ⟨_, _, _, _, rfl, hin, hb⟩
    have HIN := Lib.hid hin
    have HB := Lib.hid hb
    have HFIN := Lib.hid hfin
    clear hin hb hfin
    have k0_0 := cv0 k0
    have k0_1 := cv1 k0
    have k0_2 := cv2 k0
    have k0_l := lt_heap k0
    have K0 := Lib.hid k0
    clear k0
    go_wp2_with fail
    refine bodyPost_ret (v := .agg #[.int .i64 1, .slice (some ⟨w.heap.size + 1, 0, none⟩) 1 1, .slice (some ⟨w.heap.size + 4, 0, none⟩) 1 1]) (by simp [results, Tryd.results7, go_sem, k0_0, k0_1, k0_2, k0_l]) rfl ?_
    exact HFIN.out

set_option maxRecDepth 100000 in
set_option maxHeartbeats 8000000 in
theorem modelsLaw_any (m : Md) (cells : List Value) (w : World) (S : Nat → Prop) (h : m.In w S cells) (hS : ∀ b, S b → b < w.heap.size)
    (g0 : w.cell? ⟨0, 0, none⟩ = some (.int .i64 0)) (g1 : w.cell? ⟨0, 1, none⟩ = some (.int .i64 0)) :
    Calls Tryd.prog 3 #[.agg cells.toArray] w fun e w' => e = .returned (.bool true) ∧ Below w.heap.size w w' := by
  obtain ⟨A, c, B, d, rfl, _, _, _, _⟩ := Md.shape h
  have hg := World.block_lt_of_cell? w _ g0
  have hg1 : 0 < w.heap.size + 1 := by omega
  obtain ⟨⟨fc, fi⟩, hf⟩ : ∃ p, mdFault m = p := ⟨_, rfl⟩
  have hsm := fun W : World => Lib.hid (small_any W)
  have hvs := fun (W : World) (T : Nat → Prop) (cs : List Value) (h1 : mdSmall.In W T cs) h2 => Lib.hid (validateMd_any mdSmall cs W T h1 h2)
  have hvz := fun W : World => Lib.hid (validateMd_any ⟨0, [], []⟩ [.int .i64 0, .slice none 0 0, .slice none 0 0] W (fun _ => False) ⟨_, _, rfl, Rep.Sl.nil, Rep.Sl.nil⟩ (fun _ h => h.elim))
  have hvm := fun (W : World) (h1 : m.In W S [.int .i64 m.sz, .slice A m.cs.length c, .slice B m.rs.length d]) h2 => Lib.hid (validateMd_any m _ W S h1 h2)
  have hrm := fun (W : World) (h1 : m.In W S [.int .i64 m.sz, .slice A m.cs.length c, .slice B m.rs.length d]) h2 => Lib.hid (refModel_any m _ W S h1 h2)
  unfold MdAt at hvs hvz hvm hrm
  rw [mdSmall_ok] at hvs
  rw [mdZero_bad] at hvz
  rw [hf] at hvm hrm
  clear hf
  have H := Lib.hid h
  have HS := Lib.hid hS
  have HSM := Lib.hid hsm
  have HVS := Lib.hid hvs
  have HVZ := Lib.hid hvz
  have HVM := Lib.hid hvm
  have HRM := Lib.hid hrm
  have G0 := Lib.hid g0
  have G1 := Lib.hid g1
  clear h hS hsm hvs hvz hvm hrm g0 g1
  have g0' := G0.out
  have g1' := G1.out
  go_enter Tryd.func3, Tryd.ntmps3
  go_wp2_with fail
  go_region_held3 (fun w' => w'.cell? ⟨0, 0, none⟩ = some (.int .i64 0) ∧ w'.cell? ⟨0, 1, none⟩ = some (.int .i64 0))
    ((first | (go_keep; done) | (go_split_ands; (repeat' apply And.intro) <;> (refine (kcz _ _ (by omega)).trans ?_; assumption)) | (go_split_ands; (repeat' apply And.intro) <;> (refine (kcv _ _ (by omega)).trans ?_; assumption)) | (go_split_ands; (repeat' apply And.intro) <;> (refine (kcs _ _ (by omega)).trans ?_; assumption))))
    ((first
      | ((with_reducible refine (HSM.out _).out.mono ?_); rintro e ws ⟨As, cs, Bs, ds, rfl, hin, hws⟩; have kcs : ∀ k q, k < w.heap.size + 1 → ws.cell? ⟨k, q, none⟩ = _ := (fun k q h => hws.cell (p := ⟨k, q, none⟩) (by simp; omega)); have zs : w.heap.size + 1 ≤ ws.heap.size := (by have := hws.size; simpa using this); have HV1 := Lib.hid (HVS.out ws (Lo ws) _ (hin.keep (fun _ _ => rfl) (fun b hb => hb.2)) (fun _ h => h)); have HWS := Lib.hid hws; clear hin hws)
      | ((with_reducible refine HV1.out.out.mono ?_); rintro e wv ⟨rfl, hwv⟩; have kcv : ∀ k q, k < ws.heap.size → wv.cell? ⟨k, q, none⟩ = _ := (fun k q h => hwv.cell (p := ⟨k, q, none⟩) h); have zv := hwv.size; have HWV := Lib.hid hwv; clear hwv)
      | ((with_reducible refine (HVZ.out _).out.mono ?_); rintro e wz ⟨rfl, hwz⟩; have kcz : ∀ k q, k < wv.heap.size → wz.cell? ⟨k, q, none⟩ = _ := (fun k q h => hwz.cell (p := ⟨k, q, none⟩) h); have zz := hwz.size; have HWZ := Lib.hid hwz; clear hwz)
      | fail))
  all_goals
    have p0 : wz.heap[w.heap.size]? = some (.cells #[.int .i64 m.sz, .slice A m.cs.length c, .slice B m.rs.length d] 25 (0, 0)) := (HWZ.out.block _ (by omega)).trans ((HWV.out.block _ (by omega)).trans ((HWS.out.block _ (by simp)).trans (heap_drew (heap_at rfl))))
    have hB : Below w.heap.size w wz := (((((Below.refl _ w).alloc (Nat.le_refl _) (.cells #[.int .i64 m.sz, .slice A m.cs.length c, .slice B m.rs.length d] 25)).drew).trans (HWS.out.mono (by simp))).trans (HWV.out.mono (by omega))).trans (HWZ.out.mono (by omega))
    clear kcs kcv kcz
    have HM1 := Lib.hid (HVM.out wz.drew (H.out.keep (fun b hb => hB.block b (HS.out b hb)) (fun _ h => h)) (fun b hb => by have := HS.out b hb; simp; omega))
    have HB := Lib.hid hB
    clear hB
    have p0_0 := cv0 p0
    have p0_1 := cv1 p0
    have p0_2 := cv2 p0
    have p0_l := lt_heap p0
    have P0 := Lib.hid p0
    clear p0
    go_wp2_with fail
    go_region_held3 (fun w' => w'.cell? ⟨w.heap.size, 0, none⟩ = some (.int .i64 m.sz) ∧ w'.cell? ⟨w.heap.size, 1, none⟩ = some (.slice A m.cs.length c) ∧ w'.cell? ⟨w.heap.size, 2, none⟩ = some (.slice B m.rs.length d))
      ((first | (go_keep; done) | (go_split_ands; (repeat' apply And.intro) <;> (refine (kcm _ _ (by omega)).trans ?_; assumption)) | (go_split_ands; (repeat' apply And.intro) <;> (refine (kcr _ _ (by omega)).trans ?_; assumption))))
      ((first
        | ((with_reducible refine HM1.out.out.mono ?_); rintro e wm ⟨rfl, hwm⟩; have kcm : ∀ k q, k < wz.heap.size → wm.cell? ⟨k, q, none⟩ = _ := (fun k q h => hwm.cell (p := ⟨k, q, none⟩) (by simpa using h)); have zm : wz.heap.size ≤ wm.heap.size := (by have := hwm.size; simpa using this); have HR1 := Lib.hid (HRM.out wm (H.out.keep (fun b hb => (hwm.block b (by have := HS.out b hb; simp; omega)).trans (HB.out.block b (HS.out b hb))) (fun _ h => h)) (fun b hb => by have := HS.out b hb; omega)); have HWM := Lib.hid hwm; clear hwm)
        | ((with_reducible refine HR1.out.out.mono ?_); rintro e wr ⟨rfl, hwr⟩; have kcr : ∀ k q, k < wm.heap.size → wr.cell? ⟨k, q, none⟩ = _ := (fun k q h => hwr.cell (p := ⟨k, q, none⟩) h); have HWR := Lib.hid hwr; clear hwr)
        | fail))
    all_goals go_wp2_with fail
    all_goals go_returns
    all_goals exact ⟨rfl, (HB.out.drew.trans (HWM.out.mono (by simp; omega))).trans (HWR.out.mono (by omega))⟩

end Go.Proofs.YtnoceodmnjhljabDoor
