/-
  Open formulas in memory: the frames of FormRead's stack (five cells each); what 'open[k].f.Subs = append(open[k].f.Subs, done)' leaves. Nothing here walks.
-/
import Derived.Test.YtnoceodmnjhljabDoorProg
import Derived.Test.YtnoceodmnjhljabDoorFm
import Derived.Test.YtnoceodmnjhljabDoorRow1
namespace Go.Proofs.YtnoceodmnjhljabDoor
open Go Go.RowKit
set_option linter.unusedSimpArgs false
set_option linter.unusedVariables false

theorem infoFrameF : (Tryd.prog.info? 63).map (fun i => (i.zero, i.size, i.bytes)) = some (some (.agg #[.int .i64 0, .string ⟨#[]⟩, .slice none 0 0, .slice none 0 0, .bool false]), 5, 80) := by kernel_rfl
theorem infoForm : (Tryd.prog.info? 34).map (fun i => (i.zero, i.size, i.bytes)) = some (some (.agg #[.int .i64 0, .string ⟨#[]⟩, .slice none 0 0, .slice none 0 0]), 4, 72) := by kernel_rfl

def Ff.kind : Ff → Nat | .neg => 4 | .qu k _ => k | .par0 => 0 | .par1 k _ => k
def Ff.nm : Ff → ByteArray | .qu _ x => x | _ => ⟨#[]⟩
def Ff.kids : Ff → List Fm | .par1 _ f => [f.fm] | _ => []
def Ff.closed : Ff → Bool | .par0 => true | .par1 _ _ => true | _ => false
/-- A frame: what it is, its parts. -/
structure F5 where
  f : Ff
  a : Value
def F5.cells (p : F5) : List Value := [.int .i64 p.f.kind, .string p.f.nm, .slice none 0 0, p.a, .bool p.f.closed]
/-- The cells of the stack's row, the outermost frame first. -/
def f5Cells (l : List F5) : List Value := l.reverse.flatMap F5.cells
theorem f5Cells_cons (p : F5) (l : List F5) : f5Cells (p :: l) = f5Cells l ++ p.cells := by simp [f5Cells]
theorem f5Cells_len (l : List F5) : (f5Cells l).length = l.length * 5 := by
  induction l with
  | nil => rfl
  | cons p l ih => rw [f5Cells_cons, List.length_append, ih]; simp [F5.cells]; omega
/-- All that a frame leads to lies in [lo, hi), not in g. -/
def F5.Ok (w : World) (g : Option Nat) (lo hi : Nat) (p : F5) : Prop :=
  p.f.nm.size ≤ maxLen ∧ fmRep.Own 34 lo w (fun b => lo ≤ b ∧ b < hi ∧ g ≠ some b) p.a p.f.kids ∧ (∀ b, p.a.ownBlock = some b → lo ≤ b ∧ b < hi ∧ g ≠ some b)
/-- All frames, the innermost first. -/
def GsOk (w : World) (g : Option Nat) (base : Nat) : List F5 → Nat → Prop
  | [], hi => base ≤ hi
  | p :: r, hi => ∃ lo, lo ≤ hi ∧ p.Ok w g lo hi ∧ GsOk w g base r lo
theorem F5.Ok.keep {w w' : World} {g g' : Option Nat} {lo hi hi' : Nat} {p : F5} (h : p.Ok w g lo hi) (hk : ∀ b, lo ≤ b → b < hi → g ≠ some b → w'.heap[b]? = w.heap[b]?) (hg : ∀ b, b < hi → g' = some b → g = some b) (hh : hi ≤ hi') : p.Ok w' g' lo hi' := by
  obtain ⟨h1, h2, h3⟩ := h
  refine ⟨h1, h2.keepS (fun b _ hb => hk b (h3 b hb).1 (h3 b hb).2.1 (h3 b hb).2.2) (fun b hb _ => hk b hb.1 hb.2.1 hb.2.2) (fun b hb => ⟨hb.1, by have := hb.2.1; omega, fun e => hb.2.2 (hg b hb.2.1 e)⟩), fun b hb => ?_⟩
  obtain ⟨h4, h5, h6⟩ := h3 b hb
  exact ⟨h4, by omega, fun e => h6 (hg b h5 e)⟩
theorem GsOk.base {w : World} {g : Option Nat} {base : Nat} : ∀ {l : List F5} {hi : Nat}, GsOk w g base l hi → base ≤ hi
  | [], _, h => h
  | _ :: _, _, ⟨_, h1, _, h3⟩ => Nat.le_trans (GsOk.base h3) h1
theorem GsOk.keep {w w' : World} {g g' : Option Nat} {base : Nat} : ∀ {l : List F5} {hi hi' : Nat}, GsOk w g base l hi → (∀ b, base ≤ b → b < hi → g ≠ some b → w'.heap[b]? = w.heap[b]?) → (∀ b, b < hi → g' = some b → g = some b) → hi ≤ hi' → GsOk w' g' base l hi'
  | [], _, _, h, _, _, hh => Nat.le_trans h hh
  | p :: r, hi, hi', h, hk, hg, hh => by
    obtain ⟨lo, h1, h2, h3⟩ := h
    have hb : base ≤ lo := GsOk.base h3
    exact ⟨lo, by omega, h2.keep (fun b h4 h5 h6 => hk b (by omega) h5 h6) hg hh, GsOk.keep h3 (fun b h4 h5 h6 => hk b h4 (by omega) h6) (fun b h4 h5 => hg b (by omega) h5) (Nat.le_refl _)⟩
/-- A frame without parts more. -/
theorem GsOk.push {w : World} {g : Option Nat} {base : Nat} {l : List F5} {hi : Nat} {f : Ff} (h : GsOk w g base l hi) (hf : f.kids = []) (hn : f.nm.size ≤ maxLen) : GsOk w g base (⟨f, .slice none 0 0⟩ :: l) hi :=
  ⟨hi, Nat.le_refl _, ⟨hn, by rw [hf]; exact Rep.Own.nil, fun b e => by cases e⟩, h⟩

/-- Behind the append: the stack's row (block g), the frame's own row (block h), what stayed. -/
structure Apd5 (wr wx : World) (base g k capg : Nat) (old : Value) (lo m : Nat) (xs pre ds : List Value) (kd nm cl : Value) (h cap D : Nat) : Prop where
  st : wx.ownsRow base 63 5 (.slice (some ⟨g, 0, none⟩) (k + 1) capg) (k + 1) (pre ++ [kd, nm, .slice none 0 0, .slice (some ⟨h, 0, none⟩) (m + 1) cap, cl])
  row : wx.ownsRow lo 34 4 (.slice (some ⟨h, 0, none⟩) (m + 1) cap) (m + 1) (xs ++ ds)
  keep : ∀ b, b < wr.heap.size → b ≠ g → old.ownBlock ≠ some b → wx.heap[b]? = wr.heap[b]?
  ne : h ≠ g
  neD : h ≠ D
  at_ : old.ownBlock = some h ∨ wr.heap.size ≤ h
  lt : h < wx.heap.size
  sz : wr.heap.size ≤ wx.heap.size
  os : wx.os = wr.os
  tape : wx.tape = wr.tape
  output : wx.output = wr.output
section
variable {wr w3 : World} {base g k capg lo m h cap D : Nat} {old kd nm cl z0 z1 z2 z3 d0 d1 d2 d3 : Value} {xs pre : List Value} {o : Obj}
theorem farM4 {w : World} {b i q : Nat} {x : Option Obj} (hq : q ≠ b) (hx : w.heap[q]? = x) :
    ((((w.setCell ⟨b, i, none⟩ d0).setCell ⟨b, i + 1, none⟩ d1).setCell ⟨b, i + 2, none⟩ d2).setCell ⟨b, i + 3, none⟩ d3).heap[q]? = x := far4 hq hx
theorem apd5 (hst : wr.ownsRow base 63 5 (.slice (some ⟨g, 0, none⟩) (k + 1) capg) (k + 1) (pre ++ [kd, nm, .slice none 0 0, old, cl])) (hpre : pre.length = k * 5) (hxs : xs.length = m * 4) (hgl : g < wr.heap.size)
    (hown : w3.ownsRow lo 34 4 (.slice (some ⟨h, 0, none⟩) (m + 1) cap) (m + 1) (xs ++ [z0, z1, z2, z3])) (hg : ((wr.alloc o).drew).grownBy w3 old.ownBlock) (hat : old.ownBlock = some h ∨ h = wr.heap.size + 1) (hlt : h < w3.heap.size) (hneg : old.ownBlock ≠ some g) (hneD : h ≠ D) :
    Apd5 wr (((((w3.setCell ⟨h, m * 4, none⟩ d0).setCell ⟨h, m * 4 + 1, none⟩ d1).setCell ⟨h, m * 4 + 2, none⟩ d2).setCell ⟨h, m * 4 + 3, none⟩ d3).setCell ⟨g, k * 5 + 3, none⟩ (.slice (some ⟨h, 0, none⟩) (m + 1) cap)) base g k capg old lo m xs pre [d0, d1, d2, d3] kd nm cl h cap D ∧
    Apd5 wr (((((w3.setCell ⟨g, k * 5 + 3, none⟩ (.slice (some ⟨h, 0, none⟩) (m + 1) cap)).setCell ⟨h, m * 4, none⟩ d0).setCell ⟨h, m * 4 + 1, none⟩ d1).setCell ⟨h, m * 4 + 2, none⟩ d2).setCell ⟨h, m * 4 + 3, none⟩ d3) base g k capg old lo m xs pre [d0, d1, d2, d3] kd nm cl h cap D := by
  have hne : h ≠ g := by rintro rfl; rcases hat with e | e; exact hneg e; omega
  have hsz : wr.heap.size + 1 ≤ w3.heap.size := by have := hg.size; simpa using this
  have hk3 : ∀ b, b < wr.heap.size → old.ownBlock ≠ some b → w3.heap[b]? = wr.heap[b]? := fun b hb hne => (hg.block b (by simp; omega) (fun e => hne e.symm)).trans (heap_old hb rfl)
  have hst3 : w3.ownsRow base 63 5 (.slice (some ⟨g, 0, none⟩) (k + 1) capg) (k + 1) (pre ++ [kd, nm, .slice none 0 0, old, cl]) := rowGrown hst (fun b hb e => hk3 b hb (by simp only [Value.ownBlock, Option.some.injEq] at e; subst e; exact hneg))
  have hh : old.ownBlock = some h ∨ wr.heap.size ≤ h := by rcases hat with e | e; exact Or.inl e; exact Or.inr (by omega)
  have hbne : ∀ b, b < wr.heap.size → old.ownBlock ≠ some b → b ≠ h := by
    rintro b hb hn rfl
    rcases hat with e | e
    · exact hn e
    · omega
  have ng : (Value.slice (some ⟨g, 0, none⟩) (k + 1) capg).ownBlock ≠ some h := by simp [Value.ownBlock]; omega
  have nh : (Value.slice (some ⟨h, 0, none⟩) (m + 1) cap).ownBlock ≠ some g := by simp [Value.ownBlock]; omega
  constructor
  · refine ⟨?_, rowOther (row4 hxs hown) nh, fun b hb h1 h2 => heap_far _ h1 (farM4 (hbne b hb h2) (hk3 b hb h2)), hne, hneD, hh, by simp only [size_set]; exact hlt, by simp only [size_set]; omega, by simp only [set_os]; exact hg.os, by simp only [set_tape]; exact hg.tape, by simp only [set_output]; exact hg.output⟩
    have := rowSet (oth4 (d0 := d0) (d1 := d1) (d2 := d2) (d3 := d3) (i := m * 4) ng hst3) (i := k * 5 + 3) (by omega) (.slice (some ⟨h, 0, none⟩) (m + 1) cap)
    rwa [set_at hpre 3] at this
  · refine ⟨?_, row4 hxs (rowOther hown nh), fun b hb h1 h2 => farM4 (hbne b hb h2) (heap_far _ h1 (hk3 b hb h2)), hne, hneD, hh, by simp only [size_set]; exact hlt, by simp only [size_set]; omega, by simp only [set_os]; exact hg.os, by simp only [set_tape]; exact hg.tape, by simp only [set_output]; exact hg.output⟩
    have := rowSet hst3 (i := k * 5 + 3) (by omega) (.slice (some ⟨h, 0, none⟩) (m + 1) cap)
    rw [set_at hpre 3] at this
    exact oth4 ng this
end
/-- The frame's parts behind the append. -/
theorem Apd5.own {wr wx : World} {base g k capg lo h cap D hi2 : Nat} {p : F5} {v : Fm} {xs pre ds : List Value} {kd nm cl : Value} (hap : Apd5 wr wx base g k capg p.a lo p.f.kids.length xs pre ds kd nm cl h cap D) (hp : p.Ok wr (some g) lo hi2)
    (hxs : fmRep.All wr (fun b => (lo ≤ b ∧ b < hi2 ∧ some g ≠ some b) ∧ p.a.ownBlock ≠ some b) p.f.kids xs) (hin : fmRep.R wr (fun b => hi2 ≤ b ∧ b < wr.heap.size ∧ some g ≠ some b ∧ b ≠ D) v ds) (hlo : lo ≤ hi2) (hh2 : hi2 ≤ D) (hD : D < wr.heap.size) :
    fmRep.Own 34 lo wx (fun b => lo ≤ b ∧ b < wx.heap.size ∧ some g ≠ some b ∧ b ≠ D) (.slice (some ⟨h, 0, none⟩) (p.f.kids.length + 1) cap) (p.f.kids ++ [v]) ∧ (lo ≤ h ∧ h < wx.heap.size ∧ some g ≠ some h ∧ h ≠ D) := by
  have hsz := hap.sz
  have hlh : lo ≤ h := by
    rcases hap.at_ with e | e
    · exact (hp.2.2 h e).1
    · omega
  have hgh : some g ≠ some h := fun e => hap.ne (by injection e with e; exact e.symm)
  have hnh : ∀ b, b < wr.heap.size → p.a.ownBlock ≠ some b → b ≠ h := by
    rintro b hb h1 rfl
    rcases hap.at_ with e | e
    · exact h1 e
    · omega
  refine ⟨⟨xs ++ ds, ?_, ?_⟩, hlh, hap.lt, hgh, hap.neD⟩
  · have := hap.row
    rw [List.length_append]
    exact this
  · refine Rep.All.append (hxs.keep (fun b hb => hap.keep b (by omega) (fun e => hb.1.2.2 (by rw [e])) hb.2) (fun b hb => ⟨⟨hb.1.1, by omega, hb.1.2.2, by omega⟩, ?_⟩)) (Rep.All.single (fmRep.keep hin (fun b hb => hap.keep b hb.2.1 (fun e => hb.2.2.1 (by rw [e])) (fun e => by have := (hp.2.2 b e).2.1; omega)) (fun b hb => ⟨⟨by omega, by omega, hb.2.2.1, hb.2.2.2⟩, ?_⟩)))
    · simp only [Value.ownBlock, ne_eq, Option.some.injEq]
      exact fun e => hnh b hb.2.1 (fun e => by have := (hp.2.2 b e).2.1; omega) e.symm
    · simp only [Value.ownBlock, ne_eq, Option.some.injEq]
      exact fun e => hnh b (by omega) hb.2 e.symm

end Go.Proofs.YtnoceodmnjhljabDoor
