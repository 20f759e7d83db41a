/-
  Names for variables: "v" and "!" with a number; the next "v" that a list does not have; the canonical form, both ways. Nothing here names the program.
-/
import Derived.Test.YtflcbbikfdahhaaDoorFmRen
import Derived.Test.YtflcbbikfdahhaaDoorFmText
import Derived.Test.YtflcbbikfdahhaaDoorParts
import Derived.Lib.ItoaNum
namespace Go.Proofs.YtflcbbikfdahhaaDoor
open Go Go.RowKit
set_option linter.unusedSimpArgs false
set_option linter.unusedVariables false

def isDig (c : UInt8) : Bool := decide (48 ≤ c.toNat) && decide (c.toNat ≤ 57)
/-- The number that digits tell. -/
def numOf (l : List UInt8) : Nat := l.foldl (fun n c => 10 * n + (c.toNat - 48)) 0
theorem toNat_dig {d : Nat} (h : d < 10) : (UInt8.ofNat (48 + d)).toNat = 48 + d := by simp [UInt8.toNat_ofNat]; omega
theorem isDig_dig {d : Nat} (h : d < 10) : isDig (UInt8.ofNat (48 + d)) = true := by
  unfold isDig
  rw [toNat_dig h]
  simp; omega
theorem dec_digs (n : Nat) : (∀ c ∈ Lib.decDigits n, isDig c = true) ∧ numOf (Lib.decDigits n) = n := by
  induction n using Nat.strongRecOn with
  | ind n ih =>
    by_cases h10 : n < 10
    · rw [Lib.decDigits, dif_pos h10]
      refine ⟨fun c hc => ?_, ?_⟩
      · obtain rfl := List.mem_singleton.1 hc
        exact isDig_dig h10
      · unfold numOf
        simp only [List.foldl_cons, List.foldl_nil, toNat_dig h10]; omega
    · obtain ⟨h1, h2⟩ := ih (n / 10) (by omega)
      have hd : n % 10 < 10 := Nat.mod_lt _ (by omega)
      rw [Lib.decDigits, dif_neg h10]
      refine ⟨fun c hc => ?_, ?_⟩
      · rcases List.mem_append.1 hc with hc | hc
        · exact h1 c hc
        · obtain rfl := List.mem_singleton.1 hc
          exact isDig_dig hd
      · unfold numOf at h2 ⊢
        rw [List.foldl_append, h2]
        simp only [List.foldl_cons, List.foldl_nil, toNat_dig hd]; omega
theorem dec_inj {n m : Nat} (h : Lib.decDigits n = Lib.decDigits m) : n = m := by rw [← (dec_digs n).2, ← (dec_digs m).2, h]
def vB (n : Nat) : ByteArray := ⟨(118 :: Lib.decDigits n).toArray⟩
def gB (n : Nat) : ByteArray := ⟨(33 :: Lib.decDigits n).toArray⟩
theorem vB_inj {n m : Nat} (h : vB n = vB m) : n = m := by
  have := congrArg dat h
  simp only [vB, dat_mk, List.cons.injEq, true_and] at this
  exact dec_inj this
theorem gB_inj {n m : Nat} (h : gB n = gB m) : n = m := by
  have := congrArg dat h
  simp only [gB, dat_mk, List.cons.injEq, true_and] at this
  exact dec_inj this
/-- A name does not begin with "!". -/
theorem okName_bang {s : ByteArray} (h : okName s = true) (n : Nat) : s ≠ gB n := by
  rintro rfl
  have h0 := dat_mk (33 :: Lib.decDigits n)
  revert h
  unfold gB okName
  simp
  intro _ _ h
  exact absurd h (by decide)
theorem next_ex (used : List ByteArray) : ∀ (L : Nat) (u : List ByteArray) (n : Nat), u.length ≤ L → ∃ m, n ≤ m ∧ m ≤ n + L ∧ vB m ∉ u := by
  intro L
  induction L with
  | zero =>
    intro u n h
    obtain rfl : u = [] := List.length_eq_zero_iff.1 (by omega)
    exact ⟨n, Nat.le_refl _, Nat.le_refl _, by simp⟩
  | succ L ih =>
    intro u n h
    by_cases hm : vB n ∈ u
    · have hlt : (u.filter (fun x => decide (x ≠ vB n))).length < u.length := List.length_filter_lt_length_iff_exists.2 ⟨vB n, hm, by simp⟩
      obtain ⟨m, h1, h2, h3⟩ := ih (u.filter (fun x => decide (x ≠ vB n))) (n + 1) (by omega)
      refine ⟨m, by omega, by omega, fun h4 => h3 ?_⟩
      exact List.mem_filter.2 ⟨h4, by simp; exact fun e => by have := vB_inj e; omega⟩
    · exact ⟨n, Nat.le_refl _, by omega, hm⟩
theorem next_least (u : List ByteArray) (n : Nat) : ∃ m, (n ≤ m ∧ vB m ∉ u) ∧ ∀ j, (n ≤ j ∧ vB j ∉ u) → m ≤ j := by
  obtain ⟨m, h1, _, h2⟩ := next_ex u u.length u n (Nat.le_refl _)
  exact least_of ⟨m, h1, h2⟩
/-- The number of the next "v" that a list does not have. -/
noncomputable def nextV (u : List ByteArray) (n : Nat) : Nat := Classical.choose (next_least u n)
theorem nextV_ge (u : List ByteArray) (n : Nat) : n ≤ nextV u n := (Classical.choose_spec (next_least u n)).1.1
theorem nextV_free (u : List ByteArray) (n : Nat) : vB (nextV u n) ∉ u := (Classical.choose_spec (next_least u n)).1.2
theorem nextV_least {u : List ByteArray} {n j : Nat} (h1 : n ≤ j) (h2 : vB j ∉ u) : nextV u n ≤ j := (Classical.choose_spec (next_least u n)).2 j ⟨h1, h2⟩
theorem nextV_le (u : List ByteArray) (n : Nat) : nextV u n ≤ n + u.length := by
  obtain ⟨m, h1, h2, h3⟩ := next_ex u u.length u n (Nat.le_refl _)
  exact Nat.le_trans (nextV_least h1 h3) h2
theorem nextV_step {u : List ByteArray} {n : Nat} (h : vB n ∈ u) : nextV u n = nextV u (n + 1) ∧ n + 1 ≤ nextV u n := by
  have h1 : n + 1 ≤ nextV u n := by
    rcases Nat.lt_or_eq_of_le (nextV_ge u n) with h2 | h2
    · exact h2
    · exact absurd h (by rw [h2]; exact nextV_free u n)
  exact ⟨Nat.le_antisymm (nextV_least (by have := nextV_ge u (n + 1); omega) (nextV_free u _)) (nextV_least h1 (nextV_free u n)), h1⟩
theorem nextV_stop {u : List ByteArray} {n : Nat} (h : vB n ∉ u) : nextV u n = n := Nat.le_antisymm (nextV_least (Nat.le_refl _) h) (nextV_ge u n)
theorem nextV_congr {u v : List ByteArray} (h : ∀ x, x ∈ u ↔ x ∈ v) (n : Nat) : nextV u n = nextV v n :=
  Nat.le_antisymm (nextV_least (nextV_ge v n) (fun hm => nextV_free v n ((h _).1 hm))) (nextV_least (nextV_ge u n) (fun hm => nextV_free u n ((h _).2 hm)))
/-- The number in the k-th variable's name. -/
noncomputable def numV (u : List ByteArray) : Nat → Nat
  | 0 => nextV u 0
  | k + 1 => nextV u (numV u k + 1)
/-- Where the search for the k-th begins. -/
noncomputable def fromV (u : List ByteArray) : Nat → Nat
  | 0 => 0
  | k + 1 => numV u k + 1
theorem numV_from (u : List ByteArray) (k : Nat) : numV u k = nextV u (fromV u k) := by cases k <;> rfl
theorem numV_le (u : List ByteArray) : ∀ k, numV u k + 1 ≤ (k + 1) * (u.length + 1)
  | 0 => by have := nextV_le u 0; simp only [numV]; omega
  | k + 1 => by
    have ih := numV_le u k
    have := nextV_le u (numV u k + 1)
    have e : (k + 1 + 1) * (u.length + 1) = (k + 1) * (u.length + 1) + (u.length + 1) := by rw [Nat.succ_mul]
    simp only [numV]
    omega
theorem numV_congr {u v : List ByteArray} (h : ∀ x, x ∈ u ↔ x ∈ v) : ∀ k, numV u k = numV v k
  | 0 => nextV_congr h 0
  | k + 1 => by simp only [numV]; rw [numV_congr h k]; exact nextV_congr h _
noncomputable def namV (u : List ByteArray) (k : Nat) : ByteArray := vB (numV u k)
/-- The canonical form of a formula in which the constants of env are replaced: as the program makes it. -/
noncomputable def canF (env : Env) (t : Tree FmL) : Tree FmL := (renF (namV ((fmConsts t).map (lookE env))) env t 0).1
/-- Names "!0", "!1" .. replaced. -/
def subB (l : List ByteArray) (w : ByteArray) : ByteArray := ((List.range l.length).find? (fun i => decide (gB i = w))).elim w (fun i => l.getD i w)
theorem subB_other {l : List ByteArray} {w : ByteArray} (h : ∀ i, w ≠ gB i) : subB l w = w := by
  unfold subB
  rw [List.find?_eq_none.2 (fun i _ => by simp; exact fun e => h i e.symm)]
  rfl
theorem subB_at {l : List ByteArray} {i : Nat} (h : i < l.length) : subB l (gB i) = l[i] := by
  unfold subB
  have : (List.range l.length).find? (fun j => decide (gB j = gB i)) = some i := by
    rw [List.find?_eq_some_iff_getElem]
    refine ⟨by simp, i, by simpa using h, by simp, fun j hj => ?_⟩
    simp
    exact fun e => by have := gB_inj e; omega
  rw [this]
  simp [List.getD, List.getElem?_eq_getElem h]
/-- .. as the reference makes it: marked, then swapped. -/
noncomputable def canR (env : Env) (t : Tree FmL) : Tree FmL :=
  swF (subB ((List.range (quN t)).map (namV (fmConsts (renF gB env t 0).1)))) (renF gB env t 0).1
theorem canR_canF (env : Env) (t : Tree FmL) (hw : ∀ w ∈ allW t, ∀ j, w ≠ gB j) (he : ∀ p ∈ env, ∀ j, p.2 ≠ gB j) : canR env t = canF env t := by
  have hlook : ∀ w, (∀ j, w ≠ gB j) → ∀ j, lookE env w ≠ gB j := by
    intro w h
    have : ∀ (e : Env) (r : ByteArray), (∀ p ∈ e, ∀ j, p.2 ≠ gB j) → (∀ j, r ≠ gB j) → ∀ j, e.foldl (fun r p => if p.1 = w then p.2 else r) r ≠ gB j := by
      intro e
      induction e with
      | nil => intro r _ hr; exact hr
      | cons p e ih =>
        intro r h1 h2
        rw [List.foldl_cons]
        refine ih _ (fun q hq => h1 q (List.mem_cons_of_mem _ hq)) ?_
        split
        · exact h1 p (List.mem_cons_self ..)
        · exact h2
    exact this env w he h
  have hfr := frees_ren gB env t [] 0 (fun w hm => ⟨by simp, hlook w (hw w hm)⟩)
  simp only [List.map_nil, List.append_nil] at hfr
  have hmem : ∀ x, x ∈ fmConsts (renF gB env t 0).1 ↔ x ∈ (fmConsts t).map (lookE env) := by
    intro x
    unfold fmConsts
    rw [hfr, mem_constsB]
    simp only [List.mem_map, mem_constsB]
  unfold canR canF
  rw [renF_sw (subB _) gB (namV ((fmConsts t).map (lookE env))) t env 0 (fun w hm => subB_other (hw w hm)) (fun j _ hj => ?_)]
  · have : env.map (fun p => (p.1, subB ((List.range (quN t)).map (namV (fmConsts (renF gB env t 0).1))) p.2)) = env := by
      conv => rhs; rw [← List.map_id env]
      exact List.map_congr_left (fun p hp => by rw [subB_other (he p hp)]; rfl)
    rw [this]
  · rw [subB_at (by simp; omega)]
    simp only [List.getElem_map, List.getElem_range]
    unfold namV
    rw [numV_congr hmem]

end Go.Proofs.YtflcbbikfdahhaaDoor
