/-
  The frame, memory and states of the reference's TermRead.
-/
import Derived.Test.YtnoceodmnjhljaaDoorSets
import Derived.Test.YtnoceodmnjhljaaDoorPkTParse
import Derived.Test.YtnoceodmnjhljaaDoorReadF
import Derived.Test.YtnoceodmnjhljaaDoorTermF
import Derived.Test.YtnoceodmnjhljaaDoorCloneTm
import Derived.Test.YtnoceodmnjhljaaDoorFrames
import Derived.Test.YtnoceodmnjhljaaDoorProg
import Derived.Test.YtnoceodmnjhljaaDoorRd
import Derived.Test.YtnoceodmnjhljaaDoorTmText
import Derived.Deep.DeepCutAuto
import Derived.Deep.RegionLaw
import Derived.BigQuiet
namespace Go.Proofs.YtnoceodmnjhljaaDoor

section
open Go Go.RowKit
set_option linter.unusedSimpArgs false
set_option linter.unusedVariables false

/-- The node at a path (0: a sequence's first, an if's first arm, the one part; 1: the second). -/
def sub : List Nat → Code → Code
  | [], c => c
  | 0 :: p, .seq a _ => sub p a
  | 1 :: p, .seq _ b => sub p b
  | 0 :: p, .cond _ a _ => sub p a
  | 1 :: p, .cond _ _ b => sub p b
  | 0 :: p, .block _ a => sub p a
  | 0 :: p, .scope a => sub p a
  | 0 :: p, .loop a => sub p a
  | _, _ => .skip

/-- These slots hold these values. -/
def Slots (xs : List Value) : List (Nat × Value) → Prop
  | [] => True
  | (k, v) :: l => xs[k]? = some v ∧ Slots xs l
/-- The frame has n slots, nothing is deferred, these slots hold these values. -/
def Frm (n : Nat) (l : List (Nat × Value)) (a : Act) : Prop := a.tmps.toList.length = n ∧ a.defers = [] ∧ Slots a.tmps.toList l
theorem Slots.at_ {xs : List Value} : ∀ {l : List (Nat × Value)} {k : Nat} {v : Value}, Slots xs l → (k, v) ∈ l → xs[k]? = some v
  | [], _, _, _, h => by cases h
  | (k, v) :: l, k', v', ⟨h1, h2⟩, h => by
    rcases List.mem_cons.1 h with h | h
    · injection h with e1 e2; subst e1; subst e2; exact h1
    · exact Slots.at_ h2 h
theorem Slots.sub {xs : List Value} : ∀ {l l' : List (Nat × Value)}, Slots xs l → (∀ p ∈ l', p ∈ l) → Slots xs l'
  | _, [], _, _ => trivial
  | l, (k, v) :: l', h, hs => ⟨h.at_ (hs _ (List.mem_cons_self ..)), Slots.sub h (fun p hp => hs p (List.mem_cons_of_mem _ hp))⟩
/-- Of what is known of a frame, a part. -/
theorem Frm.sub {n : Nat} {l l' : List (Nat × Value)} {a : Act} (h : Frm n l a) (hs : ∀ p ∈ l', p ∈ l) : Frm n l' a := ⟨h.1, h.2.1, h.2.2.sub hs⟩

theorem open0 {P : List Value → Prop} (h : P []) : ∀ l, l.length = 0 → P l := fun l e => by rw [List.eq_nil_of_length_eq_zero e]; exact h
theorem openS {P : List Value → Prop} {n : Nat} (h : ∀ x : Value, ∀ l, l.length = n → P (x :: l)) : ∀ l, l.length = n + 1 → P l
  | [], e => by cases e
  | x :: l, e => h x l (by simpa using e)

theorem least_of {p : Nat → Prop} (h : ∃ n, p n) : ∃ k, p k ∧ ∀ j, p j → k ≤ j := by
  obtain ⟨k, hk⟩ := h
  induction k using Nat.strongRecOn with
  | ind k ih =>
    by_cases h2 : ∃ j, j < k ∧ p j
    · obtain ⟨j, h3, h4⟩ := h2; exact ih j h3 h4
    · exact ⟨k, hk, fun j hj => Nat.le_of_not_lt fun h3 => h2 ⟨j, h3, hj⟩⟩
open Classical in
/-- A loop, by a relation that bears a number that falls in each round. -/
theorem wp_loopR {P : Program} {Q : Exit → Act → World → Prop} {c : Code} (I : Nat → Act → World → Prop) (n : Nat) {a : Act} {w : World} (h0 : I n a w)
    (round : ∀ n a w, I n a w → c.wp P (Exit.then (fun a' w' => ∃ m, m < n ∧ I m a' w') Q) a w) : (Code.loop c).wp P Q a w := by
  let μ : Act → World → Nat := fun a w => if h : ∃ n, I n a w then Classical.choose (least_of h) else 0
  have hμ : ∀ n a w, I n a w → I (μ a w) a w ∧ μ a w ≤ n := fun n a w h => by
    have hx : ∃ n, I n a w := ⟨n, h⟩
    have e : μ a w = Classical.choose (least_of hx) := dif_pos hx
    rw [e]
    exact ⟨(Classical.choose_spec (least_of hx)).1, (Classical.choose_spec (least_of hx)).2 n h⟩
  refine wp_loop (fun a w => ∃ n, I n a w) μ ⟨n, h0⟩ (fun a w hn => ?_)
  obtain ⟨n, hn⟩ := hn
  refine wp_mono (round _ a w (hμ n a w hn).1) (fun e a' w' h => ?_)
  cases e with
  | normal =>
    obtain ⟨m, h1, h2⟩ := h
    exact ⟨⟨m, h2⟩, Nat.lt_of_le_of_lt (hμ m a' w' h2).2 h1⟩
  | _ => exact h

/-- A slot's value, as an operand. -/
theorem Frm.eval {n k : Nat} {l : List (Nat × Value)} {a : Act} {v : Value} (h : Frm n l a) (hm : (k, v) ∈ l) : a.eval (.tmp k) = v := by
  have h1 := h.2.2.at_ hm
  show a.tmps.getD k undef = v
  rw [Array.getElem?_toList] at h1
  rw [Array.getD_eq_getD_getElem?, h1]; rfl
theorem inBlock_exit {id : Nat} {Q : Exit → Act → World → Prop} {a : Act} {w : World} (h : Q .normal a w) : Exit.inBlock id Q (.exit id) a w := by
  show (if id = id then _ else _)
  rw [if_pos rfl]; exact h
theorem inBlock_far {id id' : Nat} {Q : Exit → Act → World → Prop} {a : Act} {w : World} (hn : id' ≠ id) (h : Q (.exit id') a w) : Exit.inBlock id Q (.exit id') a w := by
  show (if id' = id then _ else _)
  rw [if_neg hn]; exact h
end

section
open Go Go.RowKit
set_option linter.unusedSimpArgs false
set_option linter.unusedVariables false

/-- An open term: an abstraction whose body is awaited; an application whose first, whose second part is. -/
inductive Fr where
  | abs (s : Sy)
  | app0
  | app1 (f : Tv)
/-- What TermRead finds: a fault, or a term and where it ends. -/
inductive Tr where
  | bad (code at_ : Nat)
  | ok (v : Tv) (at_ : Nat)

/-- A term is done; the open ones (the innermost first). -/
def foldT (x : ByteArray) : List Fr → Tv → Nat → Nat → Tr
  | [], v, i, _ => .ok v i
  | .abs s :: r, v, i, n => if byteAt x i = 93 then foldT x r (.abs s v) (i + 1) n else .bad 11 i
  | .app0 :: r, v, i, n => if byteAt x i = 32 then
      match trd x (40 - (r.length + 1)) (i + 1) n with
      | .bad c j => .bad c j
      | .ok b j m => if byteAt x j = 41 then foldT x r (.app v b) (j + 1) m else .bad 11 j
    else .bad 11 i
  | .app1 f :: r, v, i, n => if byteAt x i = 41 then foldT x r (.app f v) (i + 1) n else .bad 11 i
/-- A term must begin at i. -/
def runT (x : ByteArray) (op : List Fr) (i n : Nat) : Tr :=
  match trd x (40 - op.length) i n with
  | .bad c j => .bad c j
  | .ok v j m => foldT x op v j m

section
variable {x : ByteArray} {op : List Fr} {i n : Nat}
theorem runT_none (h : ¬ startB (byteAt x i)) : runT x op i n = .bad 11 i := by
  unfold runT
  cases 40 - op.length <;> (unfold trd; rw [if_neg h])
theorem runT_much (h : startB (byteAt x i)) (h2 : 200 < n + 1 ∨ 40 ≤ op.length) : runT x op i n = .bad 1 i := by
  unfold runT
  cases hk : 40 - op.length with
  | zero => unfold trd; rw [if_pos h]
  | succ k => unfold trd; rw [if_pos h, if_pos (by omega)]
theorem runT_app (h : byteAt x i = 40) (h2 : ¬ (200 < n + 1 ∨ 40 ≤ op.length)) : runT x op i n = runT x (.app0 :: op) (i + 1) (n + 1) := by
  unfold runT
  obtain ⟨k, hk⟩ : ∃ k, 40 - op.length = k + 1 := ⟨39 - op.length, by omega⟩
  have hk2 : 40 - (Fr.app0 :: op).length = k := by simp; omega
  rw [hk, hk2]
  conv => lhs; unfold trd
  rw [if_pos (Or.inr (Or.inr (Or.inl h))), if_neg (by omega), if_neg (by omega), if_neg (by omega), if_pos h]
  cases trd x k (i + 1) (n + 1) with
  | bad c j => rfl
  | ok a j m =>
    simp only [foldT]
    have hk3 : 40 - (op.length + 1) = k := by omega
    rw [hk3]
    by_cases hb : byteAt x j = 32
    · rw [if_pos hb, if_pos hb]
      cases trd x k (j + 1) m with
      | bad c j' => rfl
      | ok b j' m' =>
        simp only
        by_cases hb2 : byteAt x j' = 41
        · rw [if_pos hb2, if_pos hb2]
        · rw [if_neg hb2, if_neg hb2]
    · rw [if_neg hb, if_neg hb]
theorem runT_abs (h : byteAt x i = 91) (h2 : ¬ (200 < n + 1 ∨ 40 ≤ op.length)) :
    (∀ c a, rd x 40 (i + 1) 0 = .bad c a → runT x op i n = .bad c a) ∧
    (∀ s a m, rd x 40 (i + 1) 0 = .ok s a m → byteAt x a ≠ 32 → runT x op i n = .bad 11 a) ∧
    (∀ s a m, rd x 40 (i + 1) 0 = .ok s a m → byteAt x a = 32 → runT x op i n = runT x (.abs s :: op) (a + 1) (n + 1)) := by
  unfold runT
  obtain ⟨k, hk⟩ : ∃ k, 40 - op.length = k + 1 := ⟨39 - op.length, by omega⟩
  have hk2 : ∀ s, 40 - (Fr.abs s :: op).length = k := fun s => by simp; omega
  have e : trd x (k + 1) i n = match rd x 40 (i + 1) 0 with
      | .bad c a => .bad c a
      | .ok ty a _ => if byteAt x a = 32 then match trd x k (a + 1) (n + 1) with
          | .bad c a => .bad c a
          | .ok v a m => if byteAt x a = 93 then .ok (.abs ty v) (a + 1) m else .bad 11 a
        else .bad 11 a := by
    conv => lhs; unfold trd
    rw [if_pos (Or.inr (Or.inl h)), if_neg (by omega), if_neg (by omega), if_pos h]
    rfl
  rw [hk, e]
  refine ⟨fun c a e => by rw [e], fun s a m e hb => by rw [e]; simp only [if_neg hb], fun s a m e hb => ?_⟩
  rw [e]
  simp only [if_pos hb]
  rw [hk2]
  cases trd x k (a + 1) (n + 1) with
  | bad c j => rfl
  | ok b j m =>
    simp only [foldT]
    by_cases h93 : byteAt x j = 93
    · rw [if_pos h93, if_pos h93]
    · rw [if_neg h93, if_neg h93]
theorem runT_var (h : byteAt x i = 35) (h2 : ¬ (200 < n + 1 ∨ 40 ≤ op.length)) :
    ((numF x (i + 1)).2 = i + 1 → runT x op i n = .bad 11 (i + 1)) ∧ (¬ (numF x (i + 1)).2 = i + 1 → runT x op i n = foldT x op (.var (numF x (i + 1)).1) (numF x (i + 1)).2 (n + 1)) := by
  unfold runT
  obtain ⟨k, hk⟩ : ∃ k, 40 - op.length = k + 1 := ⟨39 - op.length, by omega⟩
  rw [hk]
  unfold trd
  rw [if_pos (Or.inl h), if_neg (by omega), if_pos h]
  refine ⟨fun e => by rw [if_pos e], fun e => by rw [if_neg e]⟩
theorem runT_con (h : 97 ≤ byteAt x i ∧ byteAt x i ≤ 122) (h2 : ¬ (200 < n + 1 ∨ 40 ≤ op.length)) :
    (byteAt x (nameE x i) ≠ 58 → runT x op i n = .bad 11 (nameE x i)) ∧
    (byteAt x (nameE x i) = 58 → (∀ c a, rd x 40 (nameE x i + 1) 0 = .bad c a → runT x op i n = .bad c a) ∧
      (∀ s a m, rd x 40 (nameE x i + 1) 0 = .ok s a m → runT x op i n = foldT x op (.con (x.extract i (nameE x i)) s) a (n + 1))) := by
  unfold runT
  obtain ⟨k, hk⟩ : ∃ k, 40 - op.length = k + 1 := ⟨39 - op.length, by omega⟩
  rw [hk]
  unfold trd
  rw [if_pos (Or.inr (Or.inr (Or.inr h))), if_neg (by omega), if_neg (by omega), if_neg (by omega), if_neg (by omega)]
  refine ⟨fun e => by rw [if_neg e], fun e => ⟨fun c a e2 => by rw [if_pos e, e2], fun s a m e2 => by rw [if_pos e, e2]⟩⟩
end
section
variable {x : ByteArray} {r : List Fr} {v : Tv} {i n : Nat}
theorem foldT_abs {s : Sy} : (byteAt x i = 93 → foldT x (.abs s :: r) v i n = foldT x r (.abs s v) (i + 1) n) ∧ (byteAt x i ≠ 93 → foldT x (.abs s :: r) v i n = .bad 11 i) := by
  constructor <;> intro h
  · conv => lhs; unfold foldT
    rw [if_pos h]
  · conv => lhs; unfold foldT
    rw [if_neg h]
theorem foldT_app0 : (byteAt x i = 32 → foldT x (.app0 :: r) v i n = runT x (.app1 v :: r) (i + 1) n) ∧ (byteAt x i ≠ 32 → foldT x (.app0 :: r) v i n = .bad 11 i) := by
  constructor <;> intro h
  · unfold runT
    conv => lhs; unfold foldT
    rw [if_pos h]
    rfl
  · conv => lhs; unfold foldT
    rw [if_neg h]
theorem foldT_app1 {f : Tv} : (byteAt x i = 41 → foldT x (.app1 f :: r) v i n = foldT x r (.app f v) (i + 1) n) ∧ (byteAt x i ≠ 41 → foldT x (.app1 f :: r) v i n = .bad 11 i) := by
  constructor <;> intro h
  · conv => lhs; unfold foldT
    rw [if_pos h]
  · conv => lhs; unfold foldT
    rw [if_neg h]
end

/-- What the run tells of the whole text. -/
theorem tp_run {x : ByteArray} (hx : ¬ 4000 < x.size) :
    (∀ c j, runT x [] 0 0 = .bad c j → tpC x = (c, ((j : Nat) : Int)) ∧ c ≠ 0) ∧
    (∀ v i, runT x [] 0 0 = .ok v i → (i < x.size → tpC x = (11, ((i : Nat) : Int))) ∧ (¬ i < x.size → tpC x = tmFault v.tm ∧ ((tmFault v.tm).1 = 0 → tpT x = v.tm))) := by
  have ht := termF_trd x 40 ⟨0, 0, 0, 0⟩ rfl
  simp only at ht
  unfold runT
  simp only [List.length_nil, Nat.sub_zero]
  cases hr : trd x 40 0 0 with
  | bad c a =>
    rw [hr] at ht
    simp only at ht ⊢
    obtain ⟨h1, h2, h3⟩ := ht
    refine ⟨fun c' j e => ?_, fun v i e => by cases e⟩
    injection e with e1 e2
    subst e1 e2
    have hc : (tpF x).2.c = c := h1
    have hj : (tpF x).2.j = a := h2
    rw [tpC_bad hx (by rw [hc]; exact h3), hc, hj]
    exact ⟨rfl, h3⟩
  | ok v a m =>
    rw [hr] at ht
    simp only at ht
    dsimp only [foldT]
    refine ⟨fun c j e => (by cases e), fun v' i e => ?_⟩
    injection e with e1 e2
    subst e1 e2
    have hF : tpF x = (v.tm, ⟨a, 0, 0, m⟩) := ht
    refine ⟨fun hi => ?_, fun hi => ?_⟩
    · rw [tpC_more hx (by rw [hF]; simp) (by rw [hF]; exact hi), hF]
    · have hC : tpC x = tmFault v.tm := by rw [tpC_end hx (by rw [hF]; simp) (by rw [hF]; exact hi), hF]
      exact ⟨hC, fun h => by rw [tpT_ok (by rw [hC]; exact h), hF]⟩
end

section
open Go Go.RowKit
set_option linter.unusedSimpArgs false
set_option linter.unusedVariables false

theorem rowSet {w : World} {base n g cap i : Nat} {E : TypeId} {size : Nat} {xs : List Value} (h : w.ownsRow base E size (.slice (some ⟨g, 0, none⟩) n cap) n xs) (_hi : i < n * size) (x : Value) : (w.setCell ⟨g, i, none⟩ x).ownsRow base E size (.slice (some ⟨g, 0, none⟩) n cap) n (xs.set i x) := by
  obtain ⟨h1, h2⟩ := h
  refine ⟨by simpa using h1, ?_⟩
  rcases h2 with ⟨h2, _⟩ | ⟨g', cap', cur, e, hg, hh, h3, h4, h5, h6⟩
  · cases h2
  · simp only [Value.slice.injEq, Option.some.injEq, Addr.mk.injEq] at e
    obtain ⟨⟨rfl, _⟩, _, rfl⟩ := e
    refine Or.inr ⟨g, cap, cur.setIfInBounds i x, rfl, hg, heap_set hh i x, h3, h4, by simpa using h5, ?_⟩
    rw [Array.toList_setIfInBounds, List.take_set, h6]
theorem rowOther {w : World} {base b i : Nat} {E : TypeId} {size n : Nat} {v x : Value} {xs : List Value} (h : w.ownsRow base E size v n xs) (hne : v.ownBlock ≠ some b) : (w.setCell ⟨b, i, none⟩ x).ownsRow base E size v n xs := by
  obtain ⟨h1, h2⟩ := h
  refine ⟨h1, h2.imp_right ?_⟩
  rintro ⟨g', cap', cur, e, hg, hh, r⟩
  refine ⟨g', cap', cur, e, hg, heap_far _ ?_ hh, r⟩
  rintro rfl
  exact hne (by rw [e]; rfl)
theorem rowGrown {w w' : World} {base : Nat} {E : TypeId} {size n : Nat} {v : Value} {xs : List Value} (h : w.ownsRow base E size v n xs) (hk : ∀ b, b < w.heap.size → v.ownBlock = some b → w'.heap[b]? = w.heap[b]?) : w'.ownsRow base E size v n xs := by
  obtain ⟨h1, h2⟩ := h
  refine ⟨h1, h2.imp_right ?_⟩
  rintro ⟨g', cap', cur, e, hg, hh, r⟩
  exact ⟨g', cap', cur, e, hg, (hk g' (lt_heap hh) (by rw [e]; rfl)).trans hh, r⟩
theorem noTy_inU {W : World} {S : Nat → Prop} : noTy.In W S (.string ⟨#[]⟩) (.slice none 0 0) := Ty.In.mk_ (by decide +kernel) rfl (by omega) (by omega)
theorem tmZT_repU {W : World} {S : Nat → Prop} : tmRep.R W S tmZT [.int .i64 0, .string ⟨#[]⟩, .int .i64 0, .string ⟨#[]⟩, .slice none 0 0, .slice none 0 0] :=
  Tm.shut (a := ⟨0, bNil, 0, noTy⟩) (l := []) (by decide +kernel) noTy_inU Rep.Sl.nil
end

section
open Go Go.RowKit
set_option linter.unusedSimpArgs false
set_option linter.unusedVariables false

section
variable {α : Type} {ρ : Rep α}
theorem Rep.Own.keepS {E : TypeId} {base : Nat} {w w' : World} {S S' : Nat → Prop} {v : Value} {l : List α} (h : ρ.Own E base w S v l) (hb : ∀ b, b < w.heap.size → v.ownBlock = some b → w'.heap[b]? = w.heap[b]?)
    (hk : ∀ b, S b → v.ownBlock ≠ some b → w'.heap[b]? = w.heap[b]?) (hS : ∀ b, S b → S' b) : ρ.Own E base w' S' v l := by
  obtain ⟨xs, h1, h2⟩ := h
  exact ⟨xs, rowGrown h1 hb, h2.keep (fun b hb => hk b hb.1 hb.2) (fun b hb => ⟨hS b hb.1, hb.2⟩)⟩
theorem Rep.Own.slS {E : TypeId} {base : Nat} {w : World} {S S' : Nat → Prop} {v : Value} {l : List α} (h : ρ.Own E base w S v l) (hm : l.length ≤ maxLen) (hS : ∀ b, S b → S' b) (hg : ∀ b, v.ownBlock = some b → S' b) : ρ.Sl w S' v l := by
  obtain ⟨A, c, rfl⟩ := h.len
  refine ⟨A, l.length, c, rfl, rfl, hm, fun hp => ?_⟩
  obtain ⟨xs, h1, h2⟩ := h
  obtain ⟨g, cap, e, hb, hlt⟩ := h1.form hp
  injection e with e1 _ _
  subst e1
  refine ⟨g, 0, xs, rfl, hg g rfl, h2.keep (fun _ _ => rfl) (fun b hb => hS b hb.1), fun j u hj => ?_⟩
  have := h1.cells (g := g) rfl j u hj
  rw [Nat.zero_add]
  rw [← this]
  congr 1
  unfold Addr.add; split <;> simp_all
end

/-- What TermRead leaves. -/
def TReadAt (x : ByteArray) (w : World) (e : Ending) (w' : World) : Prop :=
  ∃ es : List Value, e = .returned (.tuple #[.agg es.toArray, .agg #[.int .i64 ((tpC x).1 : Nat), .int .i64 (tpC x).2]]) ∧ tmRep.R w' (Fresh w w') (tpT x) es ∧ Below w.heap.size w w'
theorem infoFrame : (Tryd.prog.info? 55).map (fun i => (i.zero, i.size, i.bytes)) = some (some (.agg #[.int .i64 0, .string ⟨#[]⟩, .int .i64 0, .string ⟨#[]⟩, .slice none 0 0, .slice none 0 0, .int .i64 0]), 7, 104) := by kernel_rfl

def Fr.kind : Fr → Int | .abs _ => 3 | _ => 4
def Fr.want : Fr → Int | .app0 => 2 | _ => 1
def Fr.ty : Fr → Ty | .abs s => s.ty | _ => noTy
def Fr.kids : Fr → List Tm | .app1 v => [v.tm] | _ => []
/-- A frame: what it is, the cells of its type, of its parts. -/
structure F7 where
  f : Fr
  t0 : Value
  t1 : Value
  a : Value
def F7.cells (p : F7) (want : Int) : List Value := [.int .i64 p.f.kind, .string ⟨#[]⟩, .int .i64 0, p.t0, p.t1, p.a, .int .i64 want]
/-- The cells of the stack's row, the outermost frame first. -/
def f7Cells (l : List F7) : List Value := l.reverse.flatMap fun p => p.cells p.f.want
theorem f7Cells_cons (p : F7) (l : List F7) : f7Cells (p :: l) = f7Cells l ++ p.cells p.f.want := by simp [f7Cells]
theorem f7Cells_len (l : List F7) : (f7Cells l).length = l.length * 7 := by
  induction l with
  | nil => rfl
  | cons p l ih => rw [f7Cells_cons, List.length_append, ih]; simp [F7.cells]; omega

/-- All that a frame leads to lies in [lo, hi), not in g. -/
def F7.Ok (w : World) (g : Option Nat) (lo hi : Nat) (p : F7) : Prop :=
  Ty.In w (fun b => lo ≤ b ∧ b < hi ∧ g ≠ some b ∧ p.a.ownBlock ≠ some b) p.f.ty p.t0 p.t1 ∧ tmRep.Own 27 lo w (fun b => lo ≤ b ∧ b < hi ∧ g ≠ some b) p.a p.f.kids ∧ (∀ b, p.a.ownBlock = some b → lo ≤ b ∧ b < hi ∧ g ≠ some b)
/-- All frames, the innermost first. -/
def FsOk (w : World) (g : Option Nat) (base : Nat) : List F7 → Nat → Prop
  | [], hi => base ≤ hi
  | p :: r, hi => ∃ lo, lo ≤ hi ∧ p.Ok w g lo hi ∧ FsOk w g base r lo

theorem F7.Ok.keep {w w' : World} {g g' : Option Nat} {lo hi hi' : Nat} {p : F7} (h : p.Ok w g lo hi) (hk : ∀ b, lo ≤ b → b < hi → g ≠ some b → w'.heap[b]? = w.heap[b]?) (hg : ∀ b, b < hi → g' = some b → g = some b) (hh : hi ≤ hi') : p.Ok w' g' lo hi' := by
  obtain ⟨h1, h2, h3⟩ := h
  refine ⟨(h1.keep (fun b hb => hk b hb.1 hb.2.1 hb.2.2.1)).mono (fun b hb => ⟨hb.1, by have := hb.2.1; omega, fun e => hb.2.2.1 (hg b hb.2.1 e), hb.2.2.2⟩), h2.keepS (fun b _ hb => hk b (h3 b hb).1 (h3 b hb).2.1 (h3 b hb).2.2) (fun b hb _ => hk b hb.1 hb.2.1 hb.2.2) (fun b hb => ⟨hb.1, by have := hb.2.1; omega, fun e => hb.2.2 (hg b hb.2.1 e)⟩), fun b hb => ?_⟩
  obtain ⟨h4, h5, h6⟩ := h3 b hb
  exact ⟨h4, by omega, fun e => h6 (hg b h5 e)⟩
theorem FsOk.base {w : World} {g : Option Nat} {base : Nat} : ∀ {l : List F7} {hi : Nat}, FsOk w g base l hi → base ≤ hi
  | [], _, h => h
  | _ :: _, _, ⟨_, h1, _, h3⟩ => Nat.le_trans (FsOk.base h3) h1
theorem FsOk.keep {w w' : World} {g g' : Option Nat} {base : Nat} : ∀ {l : List F7} {hi hi' : Nat}, FsOk w g base l hi → (∀ b, base ≤ b → b < hi → g ≠ some b → w'.heap[b]? = w.heap[b]?) → (∀ b, b < hi → g' = some b → g = some b) → hi ≤ hi' → FsOk w' g' base l hi'
  | [], _, _, h, _, _, hh => Nat.le_trans h hh
  | p :: r, hi, hi', h, hk, hg, hh => by
    obtain ⟨lo, h1, h2, h3⟩ := h
    have hb : base ≤ lo := FsOk.base h3
    exact ⟨lo, by omega, h2.keep (fun b h4 h5 h6 => hk b (by omega) h5 h6) hg hh, FsOk.keep h3 (fun b h4 h5 h6 => hk b h4 (by omega) h6) (fun b h4 h5 => hg b (by omega) h5) (Nat.le_refl _)⟩
theorem FsOk.push0 {w : World} {g : Option Nat} {base : Nat} {l : List F7} {hi : Nat} (h : FsOk w g base l hi) : FsOk w g base (⟨.app0, .string ⟨#[]⟩, .slice none 0 0, .slice none 0 0⟩ :: l) hi :=
  ⟨hi, Nat.le_refl _, ⟨noTy_inU, Rep.Own.nil, fun b e => by cases e⟩, h⟩
theorem FsOk.pushA {w : World} {g : Option Nat} {base : Nat} {l : List F7} {lo hi : Nat} {s : Sy} {t0 t1 : Value} (h : FsOk w g base l lo) (hh : lo ≤ hi) (ht : s.ty.In w (fun b => lo ≤ b ∧ b < hi ∧ g ≠ some b) t0 t1) : FsOk w g base (⟨.abs s, t0, t1, .slice none 0 0⟩ :: l) hi :=
  ⟨lo, hh, ⟨ht.mono (fun b hb => ⟨hb.1, hb.2.1, hb.2.2, by simp [Value.ownBlock]⟩), Rep.Own.nil, fun b e => by cases e⟩, h⟩

/-- Behind 'open[k].t.Args = append(open[k].t.Args, done)': the stack's row (block g), the frame's own row (block h), what stayed. -/
structure Apd7 (wr wx : World) (base g k capg : Nat) (old : Value) (lo m : Nat) (xs pre ds : List Value) (kd : Int) (t0 t1 : Value) (want : Int) (h cap D : Nat) : Prop where
  st : wx.ownsRow base 55 7 (.slice (some ⟨g, 0, none⟩) (k + 1) capg) (k + 1) (pre ++ [.int .i64 kd, .string ⟨#[]⟩, .int .i64 0, t0, t1, .slice (some ⟨h, 0, none⟩) (m + 1) cap, .int .i64 want])
  row : wx.ownsRow lo 27 6 (.slice (some ⟨h, 0, none⟩) (m + 1) cap) (m + 1) (xs ++ ds)
  keep : ∀ b, b < wr.heap.size → b ≠ g → old.ownBlock ≠ some b → wx.heap[b]? = wr.heap[b]?
  ne : h ≠ g
  neD : h ≠ D
  at_ : old.ownBlock = some h ∨ wr.heap.size ≤ h
  lt : h < wx.heap.size
  sz : wr.heap.size ≤ wx.heap.size
  os : wx.os = wr.os
  tape : wx.tape = wr.tape
  output : wx.output = wr.output

theorem set_os (w : World) (a : Addr) (v : Value) : (w.setCell a v).os = w.os := rfl
theorem set_tape (w : World) (a : Addr) (v : Value) : (w.setCell a v).tape = w.tape := rfl
theorem set_output (w : World) (a : Addr) (v : Value) : (w.setCell a v).output = w.output := rfl
theorem snocAt {xs ys : List Value} {n j : Nat} {u : Value} (h : xs.length = n) (hj : ys[j]? = some u := by rfl) : (xs ++ ys)[n + j]? = some u := by
  subst h; rw [List.getElem?_append_right (by omega)]; simpa using hj
theorem set_at {xs ys : List Value} {n : Nat} (h : xs.length = n) (j : Nat) (x : Value) : (xs ++ ys).set (n + j) x = xs ++ ys.set j x := by
  subst h; rw [List.set_append_right (h := by omega)]; simp

section
variable {wr w3 : World} {base g k capg lo m h cap D : Nat} {old z0 z1 z2 z3 z4 z5 d0 d1 d2 d3 d4 d5 t0 t1 : Value} {kd want : Int} {xs pre : List Value} {o : Obj}
theorem row6 {w : World} (hxs : xs.length = m * 6) (hown : w.ownsRow lo 27 6 (.slice (some ⟨h, 0, none⟩) (m + 1) cap) (m + 1) (xs ++ [z0, z1, z2, z3, z4, z5])) :
    ((((((w.setCell ⟨h, m * 6, none⟩ d0).setCell ⟨h, m * 6 + 1, none⟩ d1).setCell ⟨h, m * 6 + 2, none⟩ d2).setCell ⟨h, m * 6 + 3, none⟩ d3).setCell ⟨h, m * 6 + 4, none⟩ d4).setCell ⟨h, m * 6 + 5, none⟩ d5).ownsRow lo 27 6 (.slice (some ⟨h, 0, none⟩) (m + 1) cap) (m + 1) (xs ++ [d0, d1, d2, d3, d4, d5]) := by
  have := rowSet (rowSet (rowSet (rowSet (rowSet (rowSet hown (i := m * 6) (by omega) d0) (i := m * 6 + 1) (by omega) d1) (i := m * 6 + 2) (by omega) d2) (i := m * 6 + 3) (by omega) d3) (i := m * 6 + 4) (by omega) d4) (i := m * 6 + 5) (by omega) d5
  have e0 : (xs ++ [z0, z1, z2, z3, z4, z5]).set (m * 6) d0 = xs ++ [d0, z1, z2, z3, z4, z5] := set_at hxs 0 d0
  rw [e0, set_at hxs 1, set_at hxs 2, set_at hxs 3, set_at hxs 4, set_at hxs 5] at this
  exact this
theorem oth6 {w : World} {e : TypeId} {size n : Nat} {v : Value} {ys : List Value} {b i : Nat} (hne : v.ownBlock ≠ some b) (hown : w.ownsRow base e size v n ys) :
    ((((((w.setCell ⟨b, i, none⟩ d0).setCell ⟨b, i + 1, none⟩ d1).setCell ⟨b, i + 2, none⟩ d2).setCell ⟨b, i + 3, none⟩ d3).setCell ⟨b, i + 4, none⟩ d4).setCell ⟨b, i + 5, none⟩ d5).ownsRow base e size v n ys :=
  rowOther (rowOther (rowOther (rowOther (rowOther (rowOther hown hne) hne) hne) hne) hne) hne
theorem farM6 {w : World} {b i q : Nat} {x : Option Obj} (hq : q ≠ b) (hx : w.heap[q]? = x) :
    ((((((w.setCell ⟨b, i, none⟩ d0).setCell ⟨b, i + 1, none⟩ d1).setCell ⟨b, i + 2, none⟩ d2).setCell ⟨b, i + 3, none⟩ d3).setCell ⟨b, i + 4, none⟩ d4).setCell ⟨b, i + 5, none⟩ d5).heap[q]? = x :=
  heap_far _ hq (heap_far _ hq (heap_far _ hq (heap_far _ hq (heap_far _ hq (heap_far _ hq hx)))))
theorem apd7 (hst : wr.ownsRow base 55 7 (.slice (some ⟨g, 0, none⟩) (k + 1) capg) (k + 1) (pre ++ [.int .i64 kd, .string ⟨#[]⟩, .int .i64 0, t0, t1, old, .int .i64 want])) (hpre : pre.length = k * 7) (hxs : xs.length = m * 6) (hgl : g < wr.heap.size)
    (hown : w3.ownsRow lo 27 6 (.slice (some ⟨h, 0, none⟩) (m + 1) cap) (m + 1) (xs ++ [z0, z1, z2, z3, z4, z5])) (hg : ((wr.alloc o).drew).grownBy w3 old.ownBlock) (hat : old.ownBlock = some h ∨ h = wr.heap.size + 1) (hlt : h < w3.heap.size) (hneg : old.ownBlock ≠ some g) (hneD : h ≠ D) :
    Apd7 wr (((((((w3.setCell ⟨h, m * 6, none⟩ d0).setCell ⟨h, m * 6 + 1, none⟩ d1).setCell ⟨h, m * 6 + 2, none⟩ d2).setCell ⟨h, m * 6 + 3, none⟩ d3).setCell ⟨h, m * 6 + 4, none⟩ d4).setCell ⟨h, m * 6 + 5, none⟩ d5).setCell ⟨g, k * 7 + 5, none⟩ (.slice (some ⟨h, 0, none⟩) (m + 1) cap)) base g k capg old lo m xs pre [d0, d1, d2, d3, d4, d5] kd t0 t1 want h cap D ∧
    Apd7 wr (((((((w3.setCell ⟨g, k * 7 + 5, none⟩ (.slice (some ⟨h, 0, none⟩) (m + 1) cap)).setCell ⟨h, m * 6, none⟩ d0).setCell ⟨h, m * 6 + 1, none⟩ d1).setCell ⟨h, m * 6 + 2, none⟩ d2).setCell ⟨h, m * 6 + 3, none⟩ d3).setCell ⟨h, m * 6 + 4, none⟩ d4).setCell ⟨h, m * 6 + 5, none⟩ d5) base g k capg old lo m xs pre [d0, d1, d2, d3, d4, d5] kd t0 t1 want h cap D := by
  have hne : h ≠ g := by rintro rfl; rcases hat with e | e; exact hneg e; omega
  have hsz : wr.heap.size + 1 ≤ w3.heap.size := by have := hg.size; simpa using this
  have hk3 : ∀ b, b < wr.heap.size → old.ownBlock ≠ some b → w3.heap[b]? = wr.heap[b]? := fun b hb hne => (hg.block b (by simp; omega) (fun e => hne e.symm)).trans (heap_old hb rfl)
  have hst3 : w3.ownsRow base 55 7 (.slice (some ⟨g, 0, none⟩) (k + 1) capg) (k + 1) (pre ++ [.int .i64 kd, .string ⟨#[]⟩, .int .i64 0, t0, t1, old, .int .i64 want]) := rowGrown hst (fun b hb e => hk3 b hb (by simp only [Value.ownBlock, Option.some.injEq] at e; subst e; exact hneg))
  have hh : old.ownBlock = some h ∨ wr.heap.size ≤ h := by rcases hat with e | e; exact Or.inl e; exact Or.inr (by omega)
  have hbne : ∀ b, b < wr.heap.size → old.ownBlock ≠ some b → b ≠ h := by
    rintro b hb hn rfl
    rcases hat with e | e
    · exact hn e
    · omega
  have ng : (Value.slice (some ⟨g, 0, none⟩) (k + 1) capg).ownBlock ≠ some h := by simp [Value.ownBlock]; omega
  have nh : (Value.slice (some ⟨h, 0, none⟩) (m + 1) cap).ownBlock ≠ some g := by simp [Value.ownBlock]; omega
  constructor
  · refine ⟨?_, rowOther (row6 hxs hown) nh, fun b hb h1 h2 => heap_far _ h1 (farM6 (hbne b hb h2) (hk3 b hb h2)), hne, hneD, hh, by simp only [size_set]; exact hlt, by simp only [size_set]; omega, by simp only [set_os]; exact hg.os, by simp only [set_tape]; exact hg.tape, by simp only [set_output]; exact hg.output⟩
    have := rowSet (oth6 (d0 := d0) (d1 := d1) (d2 := d2) (d3 := d3) (d4 := d4) (d5 := d5) (i := m * 6) ng hst3) (i := k * 7 + 5) (by omega) (.slice (some ⟨h, 0, none⟩) (m + 1) cap)
    rwa [set_at hpre 5] at this
  · refine ⟨?_, row6 hxs (rowOther hown nh), fun b hb h1 h2 => farM6 (hbne b hb h2) (heap_far _ h1 (hk3 b hb h2)), hne, hneD, hh, by simp only [size_set]; exact hlt, by simp only [size_set]; omega, by simp only [set_os]; exact hg.os, by simp only [set_tape]; exact hg.tape, by simp only [set_output]; exact hg.output⟩
    have := rowSet hst3 (i := k * 7 + 5) (by omega) (.slice (some ⟨h, 0, none⟩) (m + 1) cap)
    rw [set_at hpre 5] at this
    exact oth6 ng this
end

/-- The frame's parts and type behind the append. -/
theorem Apd7.own {wr wx : World} {base g k capg lo h cap D hi2 : Nat} {p : F7} {v : Tm} {xs pre ds : List Value} {kd want : Int} {t0 t1 : Value} (hap : Apd7 wr wx base g k capg p.a lo p.f.kids.length xs pre ds kd t0 t1 want h cap D) (hp : p.Ok wr (some g) lo hi2)
    (hxs : tmRep.All wr (fun b => (lo ≤ b ∧ b < hi2 ∧ some g ≠ some b) ∧ p.a.ownBlock ≠ some b) p.f.kids xs) (hin : tmRep.R wr (fun b => hi2 ≤ b ∧ b < wr.heap.size ∧ some g ≠ some b ∧ b ≠ D) v ds) (hlo : lo ≤ hi2) (hh2 : hi2 ≤ D) (hD : D < wr.heap.size) :
    tmRep.Own 27 lo wx (fun b => lo ≤ b ∧ b < wx.heap.size ∧ some g ≠ some b ∧ b ≠ D) (.slice (some ⟨h, 0, none⟩) (p.f.kids.length + 1) cap) (p.f.kids ++ [v]) ∧
    Ty.In wx (fun b => lo ≤ b ∧ b < wx.heap.size ∧ some g ≠ some b ∧ b ≠ D ∧ b ≠ h) p.f.ty p.t0 p.t1 ∧ (lo ≤ h ∧ h < wx.heap.size ∧ some g ≠ some h ∧ h ≠ D) := by
  have hsz := hap.sz
  have hlh : lo ≤ h := by
    rcases hap.at_ with e | e
    · exact (hp.2.2 h e).1
    · omega
  have hgh : some g ≠ some h := fun e => hap.ne (by injection e with e; exact e.symm)
  have hnh : ∀ b, b < wr.heap.size → p.a.ownBlock ≠ some b → b ≠ h := by
    rintro b hb h1 rfl
    rcases hap.at_ with e | e
    · exact h1 e
    · omega
  refine ⟨⟨xs ++ ds, ?_, ?_⟩, ?_, hlh, hap.lt, hgh, hap.neD⟩
  · have := hap.row
    rw [List.length_append]
    exact this
  · refine Rep.All.append (hxs.keep (fun b hb => hap.keep b (by omega) (fun e => hb.1.2.2 (by rw [e])) hb.2) (fun b hb => ⟨⟨hb.1.1, by omega, hb.1.2.2, by omega⟩, ?_⟩)) (Rep.All.single (tmRep.keep hin (fun b hb => hap.keep b hb.2.1 (fun e => hb.2.2.1 (by rw [e])) (fun e => by have := (hp.2.2 b e).2.1; omega)) (fun b hb => ⟨⟨by omega, by omega, hb.2.2.1, hb.2.2.2⟩, ?_⟩)))
    · simp only [Value.ownBlock, ne_eq, Option.some.injEq]
      exact fun e => hnh b hb.2.1 (fun e => by have := (hp.2.2 b e).2.1; omega) e.symm
    · simp only [Value.ownBlock, ne_eq, Option.some.injEq]
      exact fun e => hnh b (by omega) hb.2 e.symm
  · exact (hp.1.keep (fun b hb => hap.keep b (by omega) (fun e => hb.2.2.1 (by rw [e])) hb.2.2.2)).mono (fun b hb => ⟨hb.1, by omega, hb.2.2.1, by omega, hnh b (by omega) hb.2.2.2⟩)
end

section
open Go Go.RowKit
set_option linter.unusedSimpArgs false
set_option linter.unusedVariables false

set_option maxRecDepth 1000000 in
theorem frame_tr {P : Act → Prop} (h : ∀ x0 x1 x2 x3 x4 x5 x6 x7 x8 x9 x10 x11 x12 x13 x14 x15 x16 x17 x18 x19 x20 x21 x22 x23 x24 x25 x26 x27 x28 x29 x30 x31 x32 x33 x34 x35 x36 x37 x38 x39 x40 x41 x42 x43 x44 x45 x46 x47 x48 x49 x50 x51 x52 x53 x54 x55 x56 x57 x58 x59 x60 x61 x62 x63 x64 x65 x66 x67 x68 x69 x70 x71 x72 x73 x74 x75 x76 x77 x78 x79 x80 x81 x82 x83 x84 x85 x86 x87 x88 x89 x90 x91 x92 x93 x94 x95 x96 x97 x98 x99 x100 x101 x102 x103 x104 x105 x106 x107 x108 x109 x110 x111 x112 x113 x114 x115 x116 x117 x118 x119 x120 x121 x122 x123 x124 x125 x126 x127 x128 x129 x130 x131 x132 x133 x134 x135 x136 x137 x138 x139 x140 x141 x142 x143 x144 x145 x146 x147 x148 x149 x150 x151 x152 x153 x154 x155 x156 x157 x158 x159 x160 x161 x162 x163 x164 x165 x166 x167 x168 x169 x170 x171 x172 x173 x174 x175 x176 x177 x178 x179 x180 x181 x182 x183 x184 x185 x186 x187 x188 x189 x190 x191 x192 x193 x194 x195 x196 x197 x198 x199 x200 x201 x202 x203 x204 x205 x206 x207 x208 x209 x210 x211 x212 x213 x214 x215 x216 x217 x218 x219 x220 x221 x222 x223 x224 x225 x226 x227 x228 x229 x230 x231 x232 x233 x234 x235 x236 x237 x238 x239 x240 x241 x242 x243 x244 x245 x246 x247 x248 x249 x250 x251 x252 x253 x254 x255 x256 x257 x258 x259 x260 x261 x262 x263 x264 x265 x266 x267 x268 x269 x270 x271 x272 x273 x274 x275 x276 x277 x278 x279 x280 x281 x282 x283 x284 x285 x286 x287 x288 x289 x290 x291 x292 x293 x294 x295 x296 x297 x298 x299 x300 x301 x302 x303 x304 x305 x306 x307 x308 x309 x310 x311 x312 x313 x314 x315 x316 x317 x318 x319 x320 x321 x322 x323 x324 x325 x326 x327 x328 x329 : Value, P ⟨(x0 :: x1 :: x2 :: x3 :: x4 :: x5 :: x6 :: x7 :: x8 :: x9 :: x10 :: x11 :: x12 :: x13 :: x14 :: x15 :: x16 :: x17 :: x18 :: x19 :: x20 :: x21 :: x22 :: x23 :: x24 :: x25 :: x26 :: x27 :: x28 :: x29 :: x30 :: x31 :: x32 :: x33 :: x34 :: x35 :: x36 :: x37 :: x38 :: x39 :: x40 :: x41 :: x42 :: x43 :: x44 :: x45 :: x46 :: x47 :: x48 :: x49 :: x50 :: x51 :: x52 :: x53 :: x54 :: x55 :: x56 :: x57 :: x58 :: x59 :: x60 :: x61 :: x62 :: x63 :: x64 :: x65 :: x66 :: x67 :: x68 :: x69 :: x70 :: x71 :: x72 :: x73 :: x74 :: x75 :: x76 :: x77 :: x78 :: x79 :: x80 :: x81 :: x82 :: x83 :: x84 :: x85 :: x86 :: x87 :: x88 :: x89 :: x90 :: x91 :: x92 :: x93 :: x94 :: x95 :: x96 :: x97 :: x98 :: x99 :: x100 :: x101 :: x102 :: x103 :: x104 :: x105 :: x106 :: x107 :: x108 :: x109 :: x110 :: x111 :: x112 :: x113 :: x114 :: x115 :: x116 :: x117 :: x118 :: x119 :: x120 :: x121 :: x122 :: x123 :: x124 :: x125 :: x126 :: x127 :: x128 :: x129 :: x130 :: x131 :: x132 :: x133 :: x134 :: x135 :: x136 :: x137 :: x138 :: x139 :: x140 :: x141 :: x142 :: x143 :: x144 :: x145 :: x146 :: x147 :: x148 :: x149 :: x150 :: x151 :: x152 :: x153 :: x154 :: x155 :: x156 :: x157 :: x158 :: x159 :: x160 :: x161 :: x162 :: x163 :: x164 :: x165 :: x166 :: x167 :: x168 :: x169 :: x170 :: x171 :: x172 :: x173 :: x174 :: x175 :: x176 :: x177 :: x178 :: x179 :: x180 :: x181 :: x182 :: x183 :: x184 :: x185 :: x186 :: x187 :: x188 :: x189 :: x190 :: x191 :: x192 :: x193 :: x194 :: x195 :: x196 :: x197 :: x198 :: x199 :: x200 :: x201 :: x202 :: x203 :: x204 :: x205 :: x206 :: x207 :: x208 :: x209 :: x210 :: x211 :: x212 :: x213 :: x214 :: x215 :: x216 :: x217 :: x218 :: x219 :: x220 :: x221 :: x222 :: x223 :: x224 :: x225 :: x226 :: x227 :: x228 :: x229 :: x230 :: x231 :: x232 :: x233 :: x234 :: x235 :: x236 :: x237 :: x238 :: x239 :: x240 :: x241 :: x242 :: x243 :: x244 :: x245 :: x246 :: x247 :: x248 :: x249 :: x250 :: x251 :: x252 :: x253 :: x254 :: x255 :: x256 :: x257 :: x258 :: x259 :: x260 :: x261 :: x262 :: x263 :: x264 :: x265 :: x266 :: x267 :: x268 :: x269 :: x270 :: x271 :: x272 :: x273 :: x274 :: x275 :: x276 :: x277 :: x278 :: x279 :: x280 :: x281 :: x282 :: x283 :: x284 :: x285 :: x286 :: x287 :: x288 :: x289 :: x290 :: x291 :: x292 :: x293 :: x294 :: x295 :: x296 :: x297 :: x298 :: x299 :: x300 :: x301 :: x302 :: x303 :: x304 :: x305 :: x306 :: x307 :: x308 :: x309 :: x310 :: x311 :: x312 :: x313 :: x314 :: x315 :: x316 :: x317 :: x318 :: x319 :: x320 :: x321 :: x322 :: x323 :: x324 :: x325 :: x326 :: x327 :: x328 :: x329 :: []).toArray, []⟩) : ∀ a : Act, a.tmps.toList.length = 330 → a.defers = [] → P a := by
  rintro ⟨⟨l⟩, d⟩ hs hd
  simp only at hd
  subst hd
  revert l
  show ∀ l : List Value, l.length = 330 → P ⟨⟨l⟩, []⟩
  refine openS (n := 329) (fun x0 => ?_)
  refine openS (n := 328) (fun x1 => ?_)
  refine openS (n := 327) (fun x2 => ?_)
  refine openS (n := 326) (fun x3 => ?_)
  refine openS (n := 325) (fun x4 => ?_)
  refine openS (n := 324) (fun x5 => ?_)
  refine openS (n := 323) (fun x6 => ?_)
  refine openS (n := 322) (fun x7 => ?_)
  refine openS (n := 321) (fun x8 => ?_)
  refine openS (n := 320) (fun x9 => ?_)
  refine openS (n := 319) (fun x10 => ?_)
  refine openS (n := 318) (fun x11 => ?_)
  refine openS (n := 317) (fun x12 => ?_)
  refine openS (n := 316) (fun x13 => ?_)
  refine openS (n := 315) (fun x14 => ?_)
  refine openS (n := 314) (fun x15 => ?_)
  refine openS (n := 313) (fun x16 => ?_)
  refine openS (n := 312) (fun x17 => ?_)
  refine openS (n := 311) (fun x18 => ?_)
  refine openS (n := 310) (fun x19 => ?_)
  refine openS (n := 309) (fun x20 => ?_)
  refine openS (n := 308) (fun x21 => ?_)
  refine openS (n := 307) (fun x22 => ?_)
  refine openS (n := 306) (fun x23 => ?_)
  refine openS (n := 305) (fun x24 => ?_)
  refine openS (n := 304) (fun x25 => ?_)
  refine openS (n := 303) (fun x26 => ?_)
  refine openS (n := 302) (fun x27 => ?_)
  refine openS (n := 301) (fun x28 => ?_)
  refine openS (n := 300) (fun x29 => ?_)
  refine openS (n := 299) (fun x30 => ?_)
  refine openS (n := 298) (fun x31 => ?_)
  refine openS (n := 297) (fun x32 => ?_)
  refine openS (n := 296) (fun x33 => ?_)
  refine openS (n := 295) (fun x34 => ?_)
  refine openS (n := 294) (fun x35 => ?_)
  refine openS (n := 293) (fun x36 => ?_)
  refine openS (n := 292) (fun x37 => ?_)
  refine openS (n := 291) (fun x38 => ?_)
  refine openS (n := 290) (fun x39 => ?_)
  refine openS (n := 289) (fun x40 => ?_)
  refine openS (n := 288) (fun x41 => ?_)
  refine openS (n := 287) (fun x42 => ?_)
  refine openS (n := 286) (fun x43 => ?_)
  refine openS (n := 285) (fun x44 => ?_)
  refine openS (n := 284) (fun x45 => ?_)
  refine openS (n := 283) (fun x46 => ?_)
  refine openS (n := 282) (fun x47 => ?_)
  refine openS (n := 281) (fun x48 => ?_)
  refine openS (n := 280) (fun x49 => ?_)
  refine openS (n := 279) (fun x50 => ?_)
  refine openS (n := 278) (fun x51 => ?_)
  refine openS (n := 277) (fun x52 => ?_)
  refine openS (n := 276) (fun x53 => ?_)
  refine openS (n := 275) (fun x54 => ?_)
  refine openS (n := 274) (fun x55 => ?_)
  refine openS (n := 273) (fun x56 => ?_)
  refine openS (n := 272) (fun x57 => ?_)
  refine openS (n := 271) (fun x58 => ?_)
  refine openS (n := 270) (fun x59 => ?_)
  refine openS (n := 269) (fun x60 => ?_)
  refine openS (n := 268) (fun x61 => ?_)
  refine openS (n := 267) (fun x62 => ?_)
  refine openS (n := 266) (fun x63 => ?_)
  refine openS (n := 265) (fun x64 => ?_)
  refine openS (n := 264) (fun x65 => ?_)
  refine openS (n := 263) (fun x66 => ?_)
  refine openS (n := 262) (fun x67 => ?_)
  refine openS (n := 261) (fun x68 => ?_)
  refine openS (n := 260) (fun x69 => ?_)
  refine openS (n := 259) (fun x70 => ?_)
  refine openS (n := 258) (fun x71 => ?_)
  refine openS (n := 257) (fun x72 => ?_)
  refine openS (n := 256) (fun x73 => ?_)
  refine openS (n := 255) (fun x74 => ?_)
  refine openS (n := 254) (fun x75 => ?_)
  refine openS (n := 253) (fun x76 => ?_)
  refine openS (n := 252) (fun x77 => ?_)
  refine openS (n := 251) (fun x78 => ?_)
  refine openS (n := 250) (fun x79 => ?_)
  refine openS (n := 249) (fun x80 => ?_)
  refine openS (n := 248) (fun x81 => ?_)
  refine openS (n := 247) (fun x82 => ?_)
  refine openS (n := 246) (fun x83 => ?_)
  refine openS (n := 245) (fun x84 => ?_)
  refine openS (n := 244) (fun x85 => ?_)
  refine openS (n := 243) (fun x86 => ?_)
  refine openS (n := 242) (fun x87 => ?_)
  refine openS (n := 241) (fun x88 => ?_)
  refine openS (n := 240) (fun x89 => ?_)
  refine openS (n := 239) (fun x90 => ?_)
  refine openS (n := 238) (fun x91 => ?_)
  refine openS (n := 237) (fun x92 => ?_)
  refine openS (n := 236) (fun x93 => ?_)
  refine openS (n := 235) (fun x94 => ?_)
  refine openS (n := 234) (fun x95 => ?_)
  refine openS (n := 233) (fun x96 => ?_)
  refine openS (n := 232) (fun x97 => ?_)
  refine openS (n := 231) (fun x98 => ?_)
  refine openS (n := 230) (fun x99 => ?_)
  refine openS (n := 229) (fun x100 => ?_)
  refine openS (n := 228) (fun x101 => ?_)
  refine openS (n := 227) (fun x102 => ?_)
  refine openS (n := 226) (fun x103 => ?_)
  refine openS (n := 225) (fun x104 => ?_)
  refine openS (n := 224) (fun x105 => ?_)
  refine openS (n := 223) (fun x106 => ?_)
  refine openS (n := 222) (fun x107 => ?_)
  refine openS (n := 221) (fun x108 => ?_)
  refine openS (n := 220) (fun x109 => ?_)
  refine openS (n := 219) (fun x110 => ?_)
  refine openS (n := 218) (fun x111 => ?_)
  refine openS (n := 217) (fun x112 => ?_)
  refine openS (n := 216) (fun x113 => ?_)
  refine openS (n := 215) (fun x114 => ?_)
  refine openS (n := 214) (fun x115 => ?_)
  refine openS (n := 213) (fun x116 => ?_)
  refine openS (n := 212) (fun x117 => ?_)
  refine openS (n := 211) (fun x118 => ?_)
  refine openS (n := 210) (fun x119 => ?_)
  refine openS (n := 209) (fun x120 => ?_)
  refine openS (n := 208) (fun x121 => ?_)
  refine openS (n := 207) (fun x122 => ?_)
  refine openS (n := 206) (fun x123 => ?_)
  refine openS (n := 205) (fun x124 => ?_)
  refine openS (n := 204) (fun x125 => ?_)
  refine openS (n := 203) (fun x126 => ?_)
  refine openS (n := 202) (fun x127 => ?_)
  refine openS (n := 201) (fun x128 => ?_)
  refine openS (n := 200) (fun x129 => ?_)
  refine openS (n := 199) (fun x130 => ?_)
  refine openS (n := 198) (fun x131 => ?_)
  refine openS (n := 197) (fun x132 => ?_)
  refine openS (n := 196) (fun x133 => ?_)
  refine openS (n := 195) (fun x134 => ?_)
  refine openS (n := 194) (fun x135 => ?_)
  refine openS (n := 193) (fun x136 => ?_)
  refine openS (n := 192) (fun x137 => ?_)
  refine openS (n := 191) (fun x138 => ?_)
  refine openS (n := 190) (fun x139 => ?_)
  refine openS (n := 189) (fun x140 => ?_)
  refine openS (n := 188) (fun x141 => ?_)
  refine openS (n := 187) (fun x142 => ?_)
  refine openS (n := 186) (fun x143 => ?_)
  refine openS (n := 185) (fun x144 => ?_)
  refine openS (n := 184) (fun x145 => ?_)
  refine openS (n := 183) (fun x146 => ?_)
  refine openS (n := 182) (fun x147 => ?_)
  refine openS (n := 181) (fun x148 => ?_)
  refine openS (n := 180) (fun x149 => ?_)
  refine openS (n := 179) (fun x150 => ?_)
  refine openS (n := 178) (fun x151 => ?_)
  refine openS (n := 177) (fun x152 => ?_)
  refine openS (n := 176) (fun x153 => ?_)
  refine openS (n := 175) (fun x154 => ?_)
  refine openS (n := 174) (fun x155 => ?_)
  refine openS (n := 173) (fun x156 => ?_)
  refine openS (n := 172) (fun x157 => ?_)
  refine openS (n := 171) (fun x158 => ?_)
  refine openS (n := 170) (fun x159 => ?_)
  refine openS (n := 169) (fun x160 => ?_)
  refine openS (n := 168) (fun x161 => ?_)
  refine openS (n := 167) (fun x162 => ?_)
  refine openS (n := 166) (fun x163 => ?_)
  refine openS (n := 165) (fun x164 => ?_)
  refine openS (n := 164) (fun x165 => ?_)
  refine openS (n := 163) (fun x166 => ?_)
  refine openS (n := 162) (fun x167 => ?_)
  refine openS (n := 161) (fun x168 => ?_)
  refine openS (n := 160) (fun x169 => ?_)
  refine openS (n := 159) (fun x170 => ?_)
  refine openS (n := 158) (fun x171 => ?_)
  refine openS (n := 157) (fun x172 => ?_)
  refine openS (n := 156) (fun x173 => ?_)
  refine openS (n := 155) (fun x174 => ?_)
  refine openS (n := 154) (fun x175 => ?_)
  refine openS (n := 153) (fun x176 => ?_)
  refine openS (n := 152) (fun x177 => ?_)
  refine openS (n := 151) (fun x178 => ?_)
  refine openS (n := 150) (fun x179 => ?_)
  refine openS (n := 149) (fun x180 => ?_)
  refine openS (n := 148) (fun x181 => ?_)
  refine openS (n := 147) (fun x182 => ?_)
  refine openS (n := 146) (fun x183 => ?_)
  refine openS (n := 145) (fun x184 => ?_)
  refine openS (n := 144) (fun x185 => ?_)
  refine openS (n := 143) (fun x186 => ?_)
  refine openS (n := 142) (fun x187 => ?_)
  refine openS (n := 141) (fun x188 => ?_)
  refine openS (n := 140) (fun x189 => ?_)
  refine openS (n := 139) (fun x190 => ?_)
  refine openS (n := 138) (fun x191 => ?_)
  refine openS (n := 137) (fun x192 => ?_)
  refine openS (n := 136) (fun x193 => ?_)
  refine openS (n := 135) (fun x194 => ?_)
  refine openS (n := 134) (fun x195 => ?_)
  refine openS (n := 133) (fun x196 => ?_)
  refine openS (n := 132) (fun x197 => ?_)
  refine openS (n := 131) (fun x198 => ?_)
  refine openS (n := 130) (fun x199 => ?_)
  refine openS (n := 129) (fun x200 => ?_)
  refine openS (n := 128) (fun x201 => ?_)
  refine openS (n := 127) (fun x202 => ?_)
  refine openS (n := 126) (fun x203 => ?_)
  refine openS (n := 125) (fun x204 => ?_)
  refine openS (n := 124) (fun x205 => ?_)
  refine openS (n := 123) (fun x206 => ?_)
  refine openS (n := 122) (fun x207 => ?_)
  refine openS (n := 121) (fun x208 => ?_)
  refine openS (n := 120) (fun x209 => ?_)
  refine openS (n := 119) (fun x210 => ?_)
  refine openS (n := 118) (fun x211 => ?_)
  refine openS (n := 117) (fun x212 => ?_)
  refine openS (n := 116) (fun x213 => ?_)
  refine openS (n := 115) (fun x214 => ?_)
  refine openS (n := 114) (fun x215 => ?_)
  refine openS (n := 113) (fun x216 => ?_)
  refine openS (n := 112) (fun x217 => ?_)
  refine openS (n := 111) (fun x218 => ?_)
  refine openS (n := 110) (fun x219 => ?_)
  refine openS (n := 109) (fun x220 => ?_)
  refine openS (n := 108) (fun x221 => ?_)
  refine openS (n := 107) (fun x222 => ?_)
  refine openS (n := 106) (fun x223 => ?_)
  refine openS (n := 105) (fun x224 => ?_)
  refine openS (n := 104) (fun x225 => ?_)
  refine openS (n := 103) (fun x226 => ?_)
  refine openS (n := 102) (fun x227 => ?_)
  refine openS (n := 101) (fun x228 => ?_)
  refine openS (n := 100) (fun x229 => ?_)
  refine openS (n := 99) (fun x230 => ?_)
  refine openS (n := 98) (fun x231 => ?_)
  refine openS (n := 97) (fun x232 => ?_)
  refine openS (n := 96) (fun x233 => ?_)
  refine openS (n := 95) (fun x234 => ?_)
  refine openS (n := 94) (fun x235 => ?_)
  refine openS (n := 93) (fun x236 => ?_)
  refine openS (n := 92) (fun x237 => ?_)
  refine openS (n := 91) (fun x238 => ?_)
  refine openS (n := 90) (fun x239 => ?_)
  refine openS (n := 89) (fun x240 => ?_)
  refine openS (n := 88) (fun x241 => ?_)
  refine openS (n := 87) (fun x242 => ?_)
  refine openS (n := 86) (fun x243 => ?_)
  refine openS (n := 85) (fun x244 => ?_)
  refine openS (n := 84) (fun x245 => ?_)
  refine openS (n := 83) (fun x246 => ?_)
  refine openS (n := 82) (fun x247 => ?_)
  refine openS (n := 81) (fun x248 => ?_)
  refine openS (n := 80) (fun x249 => ?_)
  refine openS (n := 79) (fun x250 => ?_)
  refine openS (n := 78) (fun x251 => ?_)
  refine openS (n := 77) (fun x252 => ?_)
  refine openS (n := 76) (fun x253 => ?_)
  refine openS (n := 75) (fun x254 => ?_)
  refine openS (n := 74) (fun x255 => ?_)
  refine openS (n := 73) (fun x256 => ?_)
  refine openS (n := 72) (fun x257 => ?_)
  refine openS (n := 71) (fun x258 => ?_)
  refine openS (n := 70) (fun x259 => ?_)
  refine openS (n := 69) (fun x260 => ?_)
  refine openS (n := 68) (fun x261 => ?_)
  refine openS (n := 67) (fun x262 => ?_)
  refine openS (n := 66) (fun x263 => ?_)
  refine openS (n := 65) (fun x264 => ?_)
  refine openS (n := 64) (fun x265 => ?_)
  refine openS (n := 63) (fun x266 => ?_)
  refine openS (n := 62) (fun x267 => ?_)
  refine openS (n := 61) (fun x268 => ?_)
  refine openS (n := 60) (fun x269 => ?_)
  refine openS (n := 59) (fun x270 => ?_)
  refine openS (n := 58) (fun x271 => ?_)
  refine openS (n := 57) (fun x272 => ?_)
  refine openS (n := 56) (fun x273 => ?_)
  refine openS (n := 55) (fun x274 => ?_)
  refine openS (n := 54) (fun x275 => ?_)
  refine openS (n := 53) (fun x276 => ?_)
  refine openS (n := 52) (fun x277 => ?_)
  refine openS (n := 51) (fun x278 => ?_)
  refine openS (n := 50) (fun x279 => ?_)
  refine openS (n := 49) (fun x280 => ?_)
  refine openS (n := 48) (fun x281 => ?_)
  refine openS (n := 47) (fun x282 => ?_)
  refine openS (n := 46) (fun x283 => ?_)
  refine openS (n := 45) (fun x284 => ?_)
  refine openS (n := 44) (fun x285 => ?_)
  refine openS (n := 43) (fun x286 => ?_)
  refine openS (n := 42) (fun x287 => ?_)
  refine openS (n := 41) (fun x288 => ?_)
  refine openS (n := 40) (fun x289 => ?_)
  refine openS (n := 39) (fun x290 => ?_)
  refine openS (n := 38) (fun x291 => ?_)
  refine openS (n := 37) (fun x292 => ?_)
  refine openS (n := 36) (fun x293 => ?_)
  refine openS (n := 35) (fun x294 => ?_)
  refine openS (n := 34) (fun x295 => ?_)
  refine openS (n := 33) (fun x296 => ?_)
  refine openS (n := 32) (fun x297 => ?_)
  refine openS (n := 31) (fun x298 => ?_)
  refine openS (n := 30) (fun x299 => ?_)
  refine openS (n := 29) (fun x300 => ?_)
  refine openS (n := 28) (fun x301 => ?_)
  refine openS (n := 27) (fun x302 => ?_)
  refine openS (n := 26) (fun x303 => ?_)
  refine openS (n := 25) (fun x304 => ?_)
  refine openS (n := 24) (fun x305 => ?_)
  refine openS (n := 23) (fun x306 => ?_)
  refine openS (n := 22) (fun x307 => ?_)
  refine openS (n := 21) (fun x308 => ?_)
  refine openS (n := 20) (fun x309 => ?_)
  refine openS (n := 19) (fun x310 => ?_)
  refine openS (n := 18) (fun x311 => ?_)
  refine openS (n := 17) (fun x312 => ?_)
  refine openS (n := 16) (fun x313 => ?_)
  refine openS (n := 15) (fun x314 => ?_)
  refine openS (n := 14) (fun x315 => ?_)
  refine openS (n := 13) (fun x316 => ?_)
  refine openS (n := 12) (fun x317 => ?_)
  refine openS (n := 11) (fun x318 => ?_)
  refine openS (n := 10) (fun x319 => ?_)
  refine openS (n := 9) (fun x320 => ?_)
  refine openS (n := 8) (fun x321 => ?_)
  refine openS (n := 7) (fun x322 => ?_)
  refine openS (n := 6) (fun x323 => ?_)
  refine openS (n := 5) (fun x324 => ?_)
  refine openS (n := 4) (fun x325 => ?_)
  refine openS (n := 3) (fun x326 => ?_)
  refine openS (n := 2) (fun x327 => ?_)
  refine openS (n := 1) (fun x328 => ?_)
  refine openS (n := 0) (fun x329 => ?_)
  refine open0 ?_
  exact h x0 x1 x2 x3 x4 x5 x6 x7 x8 x9 x10 x11 x12 x13 x14 x15 x16 x17 x18 x19 x20 x21 x22 x23 x24 x25 x26 x27 x28 x29 x30 x31 x32 x33 x34 x35 x36 x37 x38 x39 x40 x41 x42 x43 x44 x45 x46 x47 x48 x49 x50 x51 x52 x53 x54 x55 x56 x57 x58 x59 x60 x61 x62 x63 x64 x65 x66 x67 x68 x69 x70 x71 x72 x73 x74 x75 x76 x77 x78 x79 x80 x81 x82 x83 x84 x85 x86 x87 x88 x89 x90 x91 x92 x93 x94 x95 x96 x97 x98 x99 x100 x101 x102 x103 x104 x105 x106 x107 x108 x109 x110 x111 x112 x113 x114 x115 x116 x117 x118 x119 x120 x121 x122 x123 x124 x125 x126 x127 x128 x129 x130 x131 x132 x133 x134 x135 x136 x137 x138 x139 x140 x141 x142 x143 x144 x145 x146 x147 x148 x149 x150 x151 x152 x153 x154 x155 x156 x157 x158 x159 x160 x161 x162 x163 x164 x165 x166 x167 x168 x169 x170 x171 x172 x173 x174 x175 x176 x177 x178 x179 x180 x181 x182 x183 x184 x185 x186 x187 x188 x189 x190 x191 x192 x193 x194 x195 x196 x197 x198 x199 x200 x201 x202 x203 x204 x205 x206 x207 x208 x209 x210 x211 x212 x213 x214 x215 x216 x217 x218 x219 x220 x221 x222 x223 x224 x225 x226 x227 x228 x229 x230 x231 x232 x233 x234 x235 x236 x237 x238 x239 x240 x241 x242 x243 x244 x245 x246 x247 x248 x249 x250 x251 x252 x253 x254 x255 x256 x257 x258 x259 x260 x261 x262 x263 x264 x265 x266 x267 x268 x269 x270 x271 x272 x273 x274 x275 x276 x277 x278 x279 x280 x281 x282 x283 x284 x285 x286 x287 x288 x289 x290 x291 x292 x293 x294 x295 x296 x297 x298 x299 x300 x301 x302 x303 x304 x305 x306 x307 x308 x309 x310 x311 x312 x313 x314 x315 x316 x317 x318 x319 x320 x321 x322 x323 x324 x325 x326 x327 x328 x329
theorem nameG_stop2 {x : ByteArray} {frm f a : Nat} (h : ¬ (a < x.size ∧ a - frm < 30 ∧ okName (x.extract frm (a + 1)) = true)) : nameG x frm f a = a := by
  cases f with
  | zero => rfl
  | succ f => unfold nameG; rw [if_neg h]
theorem nameG_go2 {x : ByteArray} {frm f a : Nat} (h : a < x.size ∧ a - frm < 30 ∧ okName (x.extract frm (a + 1)) = true) : nameG x frm (f + 1) a = nameG x frm f (a + 1) := by
  conv => lhs; unfold nameG
  rw [if_pos h]
theorem numG_bound (x : ByteArray) (frm : Nat) : ∀ (f n a : Nat), a ≤ x.size → a ≤ (numG x frm f n a).2 ∧ (numG x frm f n a).2 ≤ x.size
  | 0, n, a, h => ⟨Nat.le_refl _, h⟩
  | f + 1, n, a, h => by
    unfold numG
    split
    · rename_i hc
      have := numG_bound x frm f (10 * n + (byteAt x a - 48)) (a + 1) hc.1
      exact ⟨by omega, this.2⟩
    · exact ⟨Nat.le_refl _, h⟩
theorem numF_bound (x : ByteArray) (i : Nat) (h : i ≤ x.size) : i ≤ (numF x i).2 ∧ (numF x i).2 ≤ x.size := numG_bound x i _ 0 i h
theorem ext_le2 (x : ByteArray) (i a : Nat) (hx : x.size ≤ 4000) : (x.extract i a).size ≤ maxLen := by
  have h : (x.extract i a).size ≤ x.size := by rw [ByteArray.size_extract]; omega
  unfold maxLen; omega
/-- What is known of memory in TermRead: the stack's row, its frames, the results' boxes, what lies below. -/
structure TMem (w u : World) (frs : List F7) (Aq : Option Addr) (cq hi : Nat) : Prop where
  own : u.ownsRow (w.heap.size + 3) 55 7 (.slice Aq frs.length cq) frs.length (f7Cells frs)
  fs : FsOk u (Value.slice Aq frs.length cq).ownBlock (w.heap.size + 3) frs hi
  z : (u.heap[w.heap.size]? = some (.cells #[.int .i64 0, .string ⟨#[]⟩, .int .i64 0, .string ⟨#[]⟩, .slice none 0 0, .slice none 0 0] 27 (0, 0)) ∧ u.heap[w.heap.size + 1]? = some (.cells #[.int .i64 0, .int .i64 0] 29 (0, 0)) ∧ u.heap[w.heap.size + 2]? = some (.cells #[.int .i64 0, .string ⟨#[]⟩, .int .i64 0, .string ⟨#[]⟩, .slice none 0 0, .slice none 0 0] 27 (0, 0)))
  B : Below w.heap.size w u
/-- A leaf lies in the box D. -/
structure LeafAt (w wo wx : World) (frs : List F7) (Aq : Option Addr) (cq D : Nat) (v : Tv) (dc : List Value) : Prop where
  m : TMem w wx frs Aq cq D
  d : wx.heap[D]? = some (.cells dc.toArray 27 (0, 0))
  r : tmRep.R wx (fun b => wo.heap.size ≤ b ∧ b < wx.heap.size) v.tm dc
  le : wo.heap.size ≤ wx.heap.size
theorem LeafAt.drew {w wo wx : World} {frs : List F7} {Aq : Option Addr} {cq D : Nat} {v : Tv} {dc : List Value} (h : LeafAt w wo wx frs Aq cq D v dc) : LeafAt w wo wx.drew frs Aq cq D v dc :=
  ⟨⟨h.m.own.drew, h.m.fs.keep (fun _ _ _ _ => rfl) (fun _ _ e => e) (Nat.le_refl _), h.m.z, h.m.B.drew⟩, h.d, tmRep.keep h.r (fun _ _ => rfl) (fun _ h => h), h.le⟩
/-- At the inner loop's head: the term that is done lies in the box D, the stack below hi. -/
structure PopAt (w u : World) (frs : List F7) (Aq : Option Addr) (cq D hi : Nat) (v : Tv) (dc : List Value) : Prop where
  m : TMem w u frs Aq cq hi
  hle : hi ≤ D
  dl : D < u.heap.size
  d : u.heap[D]? = some (.cells dc.toArray 27 (0, 0))
  r : tmRep.R u (fun b => hi ≤ b ∧ b < u.heap.size ∧ (Value.slice Aq frs.length cq).ownBlock ≠ some b ∧ b ≠ D) v.tm dc
  q : ∀ q, (Value.slice Aq frs.length cq).ownBlock = some q → q < D
/-- Behind the append: the innermost frame's parts bear one more; so many are still wanted. -/
structure TopAt (w u : World) (f : Fr) (t0 t1 : Value) (r : List F7) (g cq D lo h cap : Nat) (v : Tv) (dc : List Value) (want : Int) : Prop where
  st : u.ownsRow (w.heap.size + 3) 55 7 (.slice (some ⟨g, 0, none⟩) (r.length + 1) cq) (r.length + 1) (f7Cells r ++ [.int .i64 f.kind, .string ⟨#[]⟩, .int .i64 0, t0, t1, .slice (some ⟨h, 0, none⟩) (f.kids.length + 1) cap, .int .i64 want])
  own : tmRep.Own 27 lo u (fun b => lo ≤ b ∧ b < u.heap.size ∧ some g ≠ some b ∧ b ≠ D) (.slice (some ⟨h, 0, none⟩) (f.kids.length + 1) cap) (f.kids ++ [v.tm])
  ty : Ty.In u (fun b => lo ≤ b ∧ b < u.heap.size ∧ some g ≠ some b ∧ b ≠ D ∧ b ≠ h) f.ty t0 t1
  fs : FsOk u (some g) (w.heap.size + 3) r lo
  z : (u.heap[w.heap.size]? = some (.cells #[.int .i64 0, .string ⟨#[]⟩, .int .i64 0, .string ⟨#[]⟩, .slice none 0 0, .slice none 0 0] 27 (0, 0)) ∧ u.heap[w.heap.size + 1]? = some (.cells #[.int .i64 0, .int .i64 0] 29 (0, 0)) ∧ u.heap[w.heap.size + 2]? = some (.cells #[.int .i64 0, .string ⟨#[]⟩, .int .i64 0, .string ⟨#[]⟩, .slice none 0 0, .slice none 0 0] 27 (0, 0)))
  d : u.heap[D]? = some (.cells dc.toArray 27 (0, 0))
  B : Below w.heap.size w u
  dl : D < u.heap.size
  gl : g < D
  ll : lo ≤ D
  h1 : lo ≤ h
  h2 : h < u.heap.size
  h3 : some g ≠ some h
  h4 : h ≠ D
end

end Go.Proofs.YtnoceodmnjhljaaDoor
