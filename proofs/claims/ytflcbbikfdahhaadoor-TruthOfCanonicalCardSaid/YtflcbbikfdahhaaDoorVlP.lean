/-
  Rows of the call's own as lists in memory; how many rows a relation has at most. Nothing here walks.
-/
import Derived.Test.YtflcbbikfdahhaaDoorMdEv
import Derived.Test.YtflcbbikfdahhaaDoorMdAt
namespace Go.Proofs.YtflcbbikfdahhaaDoor
open Go Go.RowKit
set_option linter.unusedSimpArgs false
set_option linter.unusedVariables false

/-- A row of the call's own, as a slice. -/
theorem sl_of_own {α : Type} {ρ : Rep α} {w : World} {base : Nat} {v : Value} {l : List α} {E : TypeId} {S : Nat → Prop} {xs : List Value} (h : w.ownsRow base E ρ.size v l.length xs) (hx : ρ.All w S l xs) (hm : l.length ≤ maxLen) (hS : ∀ k, v.ownBlock = some k → S k) : ρ.Sl w S v l := by
  obtain ⟨hlen, ⟨e, e0⟩ | ⟨g, cap, cur, e, hg, hh, h1, h2, h3, h4⟩⟩ := h
  · rw [e]
    exact ⟨none, 0, 0, rfl, e0, by omega, by omega⟩
  · refine ⟨some ⟨g, 0, none⟩, l.length, cap, e, rfl, hm, fun _ => ⟨g, 0, xs, rfl, hS g (by rw [e]; rfl), hx, fun j u hu => ?_⟩⟩
    have hj : j < l.length * ρ.size := by
      have := (List.getElem?_eq_some_iff.1 hu).1
      omega
    have h5 : cur[j]? = some u := by
      rw [← Array.getElem?_toList, ← List.getElem?_take_of_lt hj]
      rw [h4]; exact hu
    simp only [World.cell?, hh, Nat.zero_add]
    simpa using h5
/-- Its length is no more than its capacity. -/
theorem own_cap {w : World} {base : Nat} {E : TypeId} {n size : Nat} {v : Value} {xs : List Value} (h : w.ownsRow base E size v n xs) : ∃ A c, v = .slice A n c ∧ n ≤ c := by
  rcases h.2 with ⟨e, e0⟩ | ⟨g, cap, cur, e, hg, hh, h1, _⟩
  · exact ⟨none, 0, by rw [e, e0], by omega⟩
  · exact ⟨_, cap, e, h1⟩
theorem own_keep {w w' : World} {base : Nat} {E : TypeId} {n size : Nat} {v : Value} {xs : List Value} (h : w.ownsRow base E size v n xs) (hk : ∀ k, k < w.heap.size → w'.heap[k]? = w.heap[k]?) : w'.ownsRow base E size v n xs := by
  refine ⟨h.1, ?_⟩
  rcases h.2 with h2 | ⟨g, cap, cur, e, hg, hh, r⟩
  · exact Or.inl h2
  · exact Or.inr ⟨g, cap, cur, e, hg, (hk g (lt_heap hh)).trans hh, r⟩
theorem below_of_grown9 {w w' : World} {B : Nat} {v : Value} (h : w.grownBy w' v.ownBlock) (hv : ∀ k, v.ownBlock = some k → B ≤ k) (hB : B ≤ w.heap.size) : Below B w w' :=
  ⟨h.os, h.tape, h.output, h.size, fun k hk => h.block k (by omega) (fun e => by have := hv k e.symm; omega)⟩
theorem own_ge9 {w : World} {base size n : Nat} {E : TypeId} {v : Value} {xs : List Value} (h : w.ownsRow base E size v n xs) : ∀ k, v.ownBlock = some k → base ≤ k := fun k e => (h.lt k e).1
theorem zAll {w : World} {S : Nat → Prop} : ∀ l : List Int, zRep.All w S l (l.map (.int .i64 ·))
  | [] => rfl
  | a :: l => ⟨[.int .i64 a], l.map (.int .i64 ·), rfl, rfl, zAll l⟩

theorem rising_len : ∀ (l : List Int) (lo hi : Int), l.Pairwise (· < ·) → (∀ x ∈ l, lo ≤ x ∧ x < hi) → lo ≤ hi → (l.length : Int) ≤ hi - lo
  | [], lo, hi, _, _, h => by simp; omega
  | a :: l, lo, hi, hp, hx, h => by
    obtain ⟨h1, h2⟩ := List.pairwise_cons.1 hp
    have ha := hx a (by simp)
    have := rising_len l (a + 1) hi h2 (fun x hxl => ⟨by have := h1 x hxl; omega, (hx x (by simp [hxl])).2⟩) (by omega)
    simp only [List.length_cons]
    omega
theorem pow_le6 {sz : Int} (h : 1 ≤ sz ∧ sz ≤ 6) : ∀ n : Nat, sz ^ n ≤ 6 ^ n
  | 0 => by simp
  | n + 1 => by
    rw [Int.pow_succ, Int.pow_succ]
    have := pow_le6 h n
    have h0 : (0 : Int) < sz ^ n := Int.pow_pos (by omega)
    have h1 : sz ^ n * sz ≤ sz ^ n * 6 := Int.mul_le_mul_of_nonneg_left (by omega) (by omega)
    omega
theorem Rel.few {sz : Int} (hs : 1 ≤ sz ∧ sz ≤ 6) {x : Rel} (h : x.good sz) : x.tp.length ≤ 500000 := by
  obtain ⟨_, ha0, ha3, hp, ht⟩ := h
  have hp2 : (x.tp.map (codeN sz 0)).Pairwise (· < ·) := by
    rw [List.pairwise_map]
    refine List.Pairwise.imp_of_mem ?_ hp
    intro a b ha hb hab
    have h1 := ht a ha
    have h2 := ht b hb
    have := cmpL_code hs.1 a b (by omega) h1.2 h2.2
    by_cases hc : codeN sz 0 b ≤ codeN sz 0 a
    · have := this.2 hc; omega
    · omega
  have hb : ∀ y ∈ x.tp.map (codeN sz 0), (0 : Int) ≤ y ∧ y < 216 := by
    intro y hy
    obtain ⟨t, htm, rfl⟩ := List.mem_map.1 hy
    have h1 := ht t htm
    have h2 := codeN_bound hs.1 t h1.2
    have h3 := pow_le6 hs t.length
    have h4 : (6 : Int) ^ t.length ≤ 216 := by
      have : t.length = 0 ∨ t.length = 1 ∨ t.length = 2 ∨ t.length = 3 := by omega
      rcases this with h | h | h | h <;> rw [h] <;> decide
    omega
  have := rising_len _ 0 216 hp2 hb (by omega)
  rw [List.length_map] at this
  omega
theorem pred_hit {m : Md} {n : ByteArray} {t : List Int} {r : Rel} (hg : m.good) (h : relV m n t.length = some r) (hl : hitN (fun u => cmpL u t) r.tp = true → cutN (fun u => cmpL u t) r.tp < r.tp.length) : predV m n t = hitN (fun u => cmpL u t) r.tp := by
  have hr : r ∈ m.rs := List.mem_of_find?_eq_some h
  unfold predV
  rw [h, Option.any_some, find_cut (Rel.tup_cut (hg.rk r hr) t)]
  cases hh : hitN (fun u => cmpL u t) r.tp
  · simp
  · rw [if_pos rfl, List.getElem?_eq_getElem (hl hh)]; rfl
theorem rangeV_all {m : Md} (P : Int → Bool) : (rangeV m).all P = true ↔ ∀ i : Nat, (i : Int) < m.sz → P i = true := by
  unfold rangeV
  rw [List.all_eq_true]
  constructor
  · intro h i hi
    exact h _ (List.mem_map.2 ⟨i, List.mem_range.2 (by omega), rfl⟩)
  · intro h x hx
    obtain ⟨i, hi, rfl⟩ := List.mem_map.1 hx
    exact h i (by have := List.mem_range.1 hi; omega)
theorem rangeV_any {m : Md} (P : Int → Bool) : (rangeV m).any P = true ↔ ∃ i : Nat, (i : Int) < m.sz ∧ P i = true := by
  unfold rangeV
  rw [List.any_eq_true]
  constructor
  · rintro ⟨x, hx, h⟩
    obtain ⟨i, hi, rfl⟩ := List.mem_map.1 hx
    exact ⟨i, by have := List.mem_range.1 hi; omega, h⟩
  · rintro ⟨i, hi, h⟩
    exact ⟨_, List.mem_map.2 ⟨i, List.mem_range.2 (by omega), rfl⟩, h⟩
theorem qu_stop {m : Md} {k : Nat} {x : ByteArray} {f : Fv} {env : List (ByteArray × Int)} (hk : k = 8 ∨ k = 9) {i : Nat} (hi : (i : Int) < m.sz) (h : (evalF m f (env ++ [(x, (i : Int))]) != ((k : Int) == 8)) = true) : evalF m (.qu k x f) env = decide ((k : Int) = 9) := by
  unfold evalF
  rcases hk with rfl | rfl
  · rw [if_pos rfl]
    have h2 : evalF m f (env ++ [(x, (i : Int))]) = false := by
      cases hb : evalF m f (env ++ [(x, (i : Int))])
      · rfl
      · rw [hb] at h; cases h
    rw [show decide (((8 : Nat) : Int) = 9) = false from rfl, Bool.eq_false_iff]
    intro h3
    have := rangeV_all _ |>.1 h3 i hi
    rw [h2] at this; cases this
  · rw [if_neg (by decide)]
    have h2 : evalF m f (env ++ [(x, (i : Int))]) = true := by
      cases hb : evalF m f (env ++ [(x, (i : Int))])
      · rw [hb] at h; cases h
      · rfl
    rw [show decide (((9 : Nat) : Int) = 9) = true from rfl]
    exact rangeV_any _ |>.2 ⟨i, hi, h2⟩
theorem qu_end {m : Md} {k : Nat} {x : ByteArray} {f : Fv} {env : List (ByteArray × Int)} (hk : k = 8 ∨ k = 9) (h : ∀ i : Nat, (i : Int) < m.sz → (evalF m f (env ++ [(x, (i : Int))]) != ((k : Int) == 8)) = false) : evalF m (.qu k x f) env = decide ((k : Int) = 8) := by
  unfold evalF
  rcases hk with rfl | rfl
  · rw [if_pos rfl, show decide (((8 : Nat) : Int) = 8) = true from rfl]
    refine rangeV_all _ |>.2 (fun i hi => ?_)
    have := h i hi
    cases hb : evalF m f (env ++ [(x, (i : Int))])
    · rw [hb] at this; cases this
    · rfl
  · rw [if_neg (by decide), show decide (((9 : Nat) : Int) = 8) = false from rfl, Bool.eq_false_iff]
    intro h3
    obtain ⟨i, hi, h4⟩ := rangeV_any _ |>.1 h3
    have := h i hi
    rw [h4] at this; cases this

end Go.Proofs.YtflcbbikfdahhaaDoor
