/- Lemmas. -/
import Derived.Test.YthfokmjpbnfihaaDoorIzj
import Derived.Lib.LaidTab
import Derived.Lib.ItoaMem
import Derived.Stop.LaidErr
namespace Go.Proofs.YthfokmjpbnfihaaDoor
open Go Go.RowKit
set_option linter.unusedSimpArgs false
set_option linter.unusedVariables false
noncomputable section
open Go.ChangeShapes Go.WideShapes Go.ChangeAt Go.WideMaps Go.WideElems Go.RowKit
set_option maxRecDepth 100000
variable {W:World}

def laidM {H:Type}:List (String × DataW H) := [("math/bits.deBruijn32tab",Rows.laid_math_bits_deBruijn32tab),("math/bits.deBruijn64tab",Rows.laid_math_bits_deBruijn64tab),("internal/strconv.uint64pow10",Rows.laid_internal_strconv_uint64pow10),("glosswright/glosswrightlaw1.none",Rows.laid_glosswright_glosswrightlaw1_none)]
theorem door_metM (os:Os) (args:Array Value):laidMetH Tryd.prog laidM ((World.doorLaid Tryd.prog 400 os).forCall (fun _ _=>0) ⟨#[],args,[]⟩).memory :=
  laidMetH_of_parts3 (fuel := 8) (laidMet_of_run' 8 (by kernel_rfl) (by kernel_rfl)) (by kernel_rfl) (by kernel_rfl)
theorem of_laidM (h:laidMetH Tryd.prog laidM W):W.cell? ⟨0,0,none⟩=some (.int .i64 0)∧W.cell? ⟨0,1,none⟩=some (.int .i64 0) := by
  rw [MakeChecks.laidMetH_plain _ _ _ (by kernel_rfl)] at h
  obtain ⟨ps,⟨_,_,_,_,_,_,_,_,_,_,⟨_,_,_,_,_,_,_,_,_,_,⟨_,_,_,_,_,_,_,_,_,_,⟨g0,t0,cs0,f0,p0,q0,hg0,ht0,hv0,hd0,_,_⟩,_⟩,_⟩,_⟩,_,_⟩ := h
  obtain rfl := Option.some.inj (gNone.symm.trans hg0)
  obtain rfl := Option.some.inj (tNone.symm.trans ht0)
  obtain ⟨xs,n,hn,hx,hlen,hxl,hf⟩ := DataW.trod_struct Tryd.underlying32 hd0
  rw [cellsFault] at hlen
  obtain ⟨l⟩ := cs0
  match l,hlen with
  | [c0,c1],_ =>
  match xs,hxl with
  | [y0,y1],_ =>
  have h0:DataW.trod (fun _=>()) Tryd.prog W 0 (fun _=>true) false n 3 [c0]=some y0 := by simpa [cellsInt] using hf 0 _ rfl
  have h1:DataW.trod (fun _=>()) Tryd.prog W 0 (fun _=>true) false n 3 [c1]=some y1 := by simpa [cellsInt] using hf 1 _ rfl
  obtain ⟨k0,e0,e0',_⟩ := DataW.trod_int Tryd.underlying3 h0
  obtain ⟨k1,e1,e1',_⟩ := DataW.trod_int Tryd.underlying3 h1
  simp only [List.cons.injEq,and_true] at e0 e1
  subst e0 e1
  simp only [Prod.mk.injEq] at hx
  have hx1 := hx.1
  rw [e0',e1'] at hx1
  simp [Rows.laid_glosswright_glosswrightlaw1_none] at hx1
  obtain ⟨rfl,rfl⟩ := hx1
  exact ⟨by simpa using World.var?_cell hg0 hv0 0,by simpa using World.var?_cell hg0 hv0 1⟩
theorem tab_below {w w':World} (h:Lib.TabIs Tryd.prog w "internal/strconv.uint64pow10" .u64 Lib.pow10Tab) (hb:Below w.heap.size w w'):Lib.TabIs Tryd.prog w' "internal/strconv.uint64pow10" .u64 Lib.pow10Tab := by
  have hg:Tryd.prog.globalNamed "internal/strconv.uint64pow10" = some 1 := by kernel_rfl
  unfold Lib.TabIs World.var? at h ⊢
  rw [hg] at h ⊢
  simp only [Option.bind_some] at h ⊢
  have hlt:1<w.heap.size := by
    rcases Nat.lt_or_ge 1 w.heap.size with h' | h'
    · exact h'
    · rw [Array.getElem?_eq_none h'] at h; cases h
  rw [hb.block _ hlt]
  exact h
theorem tab_of_laidM (h:laidMetH Tryd.prog laidM W):Lib.TabIs Tryd.prog W "internal/strconv.uint64pow10" .u64 Lib.pow10Tab := by
  rw [MakeChecks.laidMetH_plain _ _ _ (by kernel_rfl)] at h
  have h2 := laidMet.tail (laidMet.tail h)
  exact Lib.tabIs_of_head (P := Tryd.prog) (name := "internal/strconv.uint64pow10") (k := .u64) (zs := Lib.pow10Tab) (g := 1) (by kernel_rfl) (by kernel_rfl) Tryd.underlying150 Tryd.underlying121 (by kernel_rfl) (by kernel_rfl) h2
end

end Go.Proofs.YthfokmjpbnfihaaDoor
