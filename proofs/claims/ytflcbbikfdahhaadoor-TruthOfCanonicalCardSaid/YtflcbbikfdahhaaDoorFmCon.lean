/-
  Lists of strings in order without doubles: as slices.Sort and slices.Compact make them, as the reference's Put does; the constants of a formula. Nothing here names the program.
-/
import Derived.Test.YtflcbbikfdahhaaDoorFmVal
import Derived.Test.YtflcbbikfdahhaaDoorBase
import Derived.Lib.SlicesCompact
namespace Go.Proofs.YtflcbbikfdahhaaDoor
open Go Go.RowKit
set_option linter.unusedSimpArgs false
set_option linter.unusedVariables false

abbrev Bs := List UInt8
theorem lessI : ∀ a : Bs, Op.bytesLess a a = false
  | [] => rfl
  | a :: l => by simp [Op.bytesLess, lessI l]
theorem lessTri : ∀ a b : Bs, Op.bytesLess a b = false → Op.bytesLess b a = false → a = b
  | [], [], _, _ => rfl
  | [], _ :: _, h, _ => by simp [Op.bytesLess] at h
  | _ :: _, [], _, h => by simp [Op.bytesLess] at h
  | a :: l, b :: r, h1, h2 => by
    simp only [Op.bytesLess, Bool.or_eq_false_iff, decide_eq_false_iff_not, Bool.and_eq_false_iff, beq_eq_false_iff_ne] at h1 h2
    have e : a = b := by
      have h3 : ¬ a.toNat < b.toNat := h1.1
      have h4 : ¬ b.toNat < a.toNat := h2.1
      exact UInt8.toNat_inj.1 (by omega)
    subst e
    rw [lessTri l r (h1.2.resolve_left (fun h => h rfl)) (h2.2.resolve_left (fun h => h rfl))]
theorem lessTrans : ∀ a b c : Bs, Op.bytesLess a b = true → Op.bytesLess b c = true → Op.bytesLess a c = true
  | _, [], _, h, _ => by unfold Op.bytesLess at h; cases h
  | _, _ :: _, [], _, h => by simp [Op.bytesLess] at h
  | [], _ :: _, _ :: _, _, _ => rfl
  | a :: x, b :: y, c :: z, h1, h2 => by
    simp only [Op.bytesLess, Bool.or_eq_true, Bool.and_eq_true, decide_eq_true_eq, beq_iff_eq] at h1 h2 ⊢
    rcases h1 with h1 | ⟨rfl, h1⟩
    · rcases h2 with h2 | ⟨rfl, h2⟩
      · left
        have h3 : a.toNat < b.toNat := h1
        have h4 : b.toNat < c.toNat := h2
        show a.toNat < c.toNat
        omega
      · exact Or.inl h1
    · rcases h2 with h2 | ⟨rfl, h2⟩
      · exact Or.inl h2
      · exact Or.inr ⟨rfl, lessTrans x y z h1 h2⟩
theorem lessAsym {a b : Bs} (h : Op.bytesLess a b = true) : Op.bytesLess b a = false := by
  cases h2 : Op.bytesLess b a
  · rfl
  · have := lessTrans a b a h h2
    rw [lessI] at this
    cases this
theorem lessLe {a b c : Bs} (h : Op.bytesLess b a = false) (h2 : Op.bytesLess b c = true) : Op.bytesLess a c = true := by
  cases h3 : Op.bytesLess a b
  · rw [lessTri a b h3 h]; exact h2
  · exact lessTrans a b c h3 h2
theorem leTrans {a b c : Bs} (h : Op.bytesLess b a = false) (h2 : Op.bytesLess c b = false) : Op.bytesLess c a = false := by
  cases h3 : Op.bytesLess c a
  · rfl
  · have := lessLe h2 (h3 : Op.bytesLess c a = true)
    rw [this] at h; cases h
theorem less_lt : ∀ a b : Bs, Op.bytesLess a b = true ↔ a < b
  | _, [] => by
    constructor
    · intro h; unfold Op.bytesLess at h; cases h
    · intro h; exact absurd h (List.not_lt_nil _)
  | [], b :: y => by simp [Op.bytesLess]
  | a :: x, b :: y => by
    simp only [Op.bytesLess, Bool.or_eq_true, Bool.and_eq_true, decide_eq_true_eq, beq_iff_eq, List.cons_lt_cons_iff, less_lt x y]
theorem le_less (a b : Bs) : decide (a ≤ b) = !Op.bytesLess b a := by
  cases h : Op.bytesLess b a
  · exact decide_eq_true (fun h2 => by rw [(less_lt b a).2 h2] at h; cases h)
  · exact decide_eq_false (fun h2 => h2 ((less_lt b a).1 h))

def Strict (l : List Bs) : Prop := l.Pairwise (fun a b => Op.bytesLess a b = true)
theorem strict_eq : ∀ (l m : List Bs), Strict l → Strict m → (∀ x, x ∈ l ↔ x ∈ m) → l = m
  | [], [], _, _, _ => rfl
  | [], b :: m, _, _, h => by have := (h b).2 (by simp); simp at this
  | a :: l, [], _, _, h => by have := (h a).1 (by simp); simp at this
  | a :: l, b :: m, hl, hm, h => by
    have h1 := List.pairwise_cons.1 hl
    have h2 := List.pairwise_cons.1 hm
    have e : a = b := by
      rcases List.mem_cons.1 ((h a).1 (by simp)) with e | e
      · exact e
      · rcases List.mem_cons.1 ((h b).2 (by simp)) with e2 | e2
        · exact e2.symm
        · have := lessTrans _ _ _ (h1.1 b e2) (h2.1 a e)
          rw [lessI] at this; cases this
    subst e
    rw [strict_eq l m h1.2 h2.2 (fun x => ?_)]
    have hx := h x
    simp only [List.mem_cons] at hx
    constructor
    · intro hxl
      rcases hx.1 (Or.inr hxl) with e | e
      · subst e; have := h1.1 x hxl; rw [lessI] at this; cases this
      · exact e
    · intro hxm
      rcases hx.2 (Or.inr hxm) with e | e
      · subst e; have := h2.1 x hxm; rw [lessI] at this; cases this
      · exact e
/-- slices.Compact of a list in order. -/
theorem compact_sorted (d : List Bs) (h : d.Pairwise (fun a b => Op.bytesLess b a = false)) : Strict (Lib.compact d) ∧ ∀ x, x ∈ Lib.compact d ↔ x ∈ d := by
  have hg : ∀ j (hj : j < d.length), d.toArray[j]! = d[j] := fun j hj => by
    rw [getElem!_pos d.toArray j (by simpa using hj)]; simp
  have hle : ∀ i j (hi : i < d.length) (hj : j < d.length), i ≤ j → Op.bytesLess d[j] d[i] = false := fun i j hi hj hij => by
    rcases Nat.lt_or_eq_of_le hij with h1 | rfl
    · exact List.pairwise_iff_getElem.1 h i j hi hj h1
    · exact lessI _
  have key : ∀ m, m ≤ d.length → Strict (Lib.compactUpTo d.toArray m) ∧ ∀ x, x ∈ Lib.compactUpTo d.toArray m ↔ ∃ j, ∃ hj : j < d.length, j < m ∧ d[j] = x := by
    intro m
    induction m with
    | zero => intro _; exact ⟨by simp [Strict, Lib.compactUpTo], fun x => by simp [Lib.compactUpTo]⟩
    | succ m ih =>
      intro hm
      obtain ⟨h1, h2⟩ := ih (by omega)
      have hml : m < d.length := by omega
      rw [Lib.compactUpTo_succ, hg m hml]
      cases hk : Lib.keeps d.toArray m
      · simp only [Bool.false_eq_true, if_false, List.append_nil]
        refine ⟨h1, fun x => (h2 x).trans ⟨fun ⟨j, hj, hjm, e⟩ => ⟨j, hj, by omega, e⟩, fun ⟨j, hj, hjm, e⟩ => ?_⟩⟩
        rcases Nat.lt_or_eq_of_le (Nat.le_of_lt_succ hjm) with h3 | rfl
        · exact ⟨j, hj, h3, e⟩
        · have h0 : j ≠ 0 := by rintro rfl; simp [Lib.keeps] at hk
          have hd : d[j] = d[j - 1] := by
            by_cases e3 : d.toArray[j]! = d.toArray[j - 1]!
            · rwa [hg j hj, hg (j - 1) (by omega)] at e3
            · rw [Lib.keeps_pos e3] at hk; cases hk
          exact ⟨j - 1, by omega, by omega, by rw [← hd]; exact e⟩
      · simp only [if_true]
        refine ⟨List.pairwise_append.2 ⟨h1, by simp, fun x hx y hy => ?_⟩, fun x => ?_⟩
        · simp at hy
          subst hy
          obtain ⟨j, hj, hjm, rfl⟩ := (h2 x).1 hx
          have h0 : 0 < m := by omega
          have hne : d[m] ≠ d[m - 1] := fun e => by
            have : Lib.keeps d.toArray m = false := Lib.keeps_neg h0 (by rw [hg m hml, hg (m - 1) (by omega)]; exact e)
            rw [this] at hk; cases hk
          have hlt : Op.bytesLess d[m - 1] d[m] = true := by
            cases h3 : Op.bytesLess d[m - 1] d[m]
            · exact absurd (lessTri _ _ (hle (m - 1) m (by omega) hml (by omega)) h3) hne
            · rfl
          exact lessLe (hle j (m - 1) hj (by omega) (by omega)) hlt
        · simp only [List.mem_append, List.mem_singleton]
          constructor
          · rintro (hx | rfl)
            · obtain ⟨j, hj, hjm, e⟩ := (h2 x).1 hx
              exact ⟨j, hj, by omega, e⟩
            · exact ⟨m, hml, by omega, rfl⟩
          · rintro ⟨j, hj, hjm, e⟩
            rcases Nat.lt_or_eq_of_le (Nat.le_of_lt_succ hjm) with h3 | rfl
            · exact Or.inl ((h2 x).2 ⟨j, hj, h3, e⟩)
            · exact Or.inr e.symm
  obtain ⟨h1, h2⟩ := key d.length (Nat.le_refl _)
  have e : Lib.compact d = Lib.compactUpTo d.toArray d.length := rfl
  rw [e]
  refine ⟨h1, fun x => (h2 x).trans ⟨fun ⟨j, hj, _, e⟩ => by rw [← e]; exact List.getElem_mem hj, fun hx => ?_⟩⟩
  obtain ⟨j, hj, e⟩ := List.getElem_of_mem hx
  exact ⟨j, hj, hj, e⟩
def sortS (l : List Bs) : List Bs := l.mergeSort fun x y => decide (x ≤ y)
theorem sortS_sorted (l : List Bs) : (sortS l).Pairwise (fun a b => Op.bytesLess b a = false) := by
  have h := List.pairwise_mergeSort (le := fun x y : Bs => decide (x ≤ y)) (fun a b c h1 h2 => by
    rw [le_less] at h1 h2 ⊢
    simp only [Bool.not_eq_true'] at h1 h2 ⊢
    exact leTrans h1 h2) (fun a b => by
    rw [le_less, le_less]
    cases h : Op.bytesLess b a
    · rfl
    · rw [lessAsym h]; rfl) l
  exact h.imp (fun {a b} h => by rw [le_less] at h; simpa using h)

/-! ### On strings -/

abbrev lessB (a b : ByteArray) : Bool := Op.bytesLess a.toList b.toList
def dat (a : ByteArray) : Bs := a.data.toList
theorem dat_toList (a : ByteArray) : a.toList = dat a := by rw [ByteArray.toList_eq]; rfl
theorem dat_inj {a b : ByteArray} (h : dat a = dat b) : a = b := bytes_inj (by rw [dat_toList, dat_toList, h])
theorem dat_mk (x : Bs) : dat ⟨x.toArray⟩ = x := by simp [dat]
theorem mk_dat (a : ByteArray) : (⟨(dat a).toArray⟩ : ByteArray) = a := dat_inj (dat_mk _)
/-- The constants: sorted, without doubles. -/
def constsB (l : List ByteArray) : List ByteArray := (Lib.compact (sortS (l.map dat))).map (fun x => ⟨x.toArray⟩)
theorem constsB_dat (l : List ByteArray) : (constsB l).map dat = Lib.compact (sortS (l.map dat)) := by
  unfold constsB
  rw [List.map_map]
  conv => rhs; rw [← List.map_id (Lib.compact (sortS (l.map dat)))]
  exact List.map_congr_left (fun x _ => dat_mk x)
theorem constsB_strict (l : List ByteArray) : Strict ((constsB l).map dat) := by rw [constsB_dat]; exact (compact_sorted _ (sortS_sorted _)).1
theorem mem_map_dat {x : ByteArray} {l : List ByteArray} : dat x ∈ l.map dat ↔ x ∈ l := by
  constructor
  · intro h
    obtain ⟨y, hy, e⟩ := List.mem_map.1 h
    rwa [← dat_inj e]
  · intro h; exact List.mem_map.2 ⟨x, h, rfl⟩
theorem mem_constsB {x : ByteArray} {l : List ByteArray} : x ∈ constsB l ↔ x ∈ l := by
  rw [← mem_map_dat (l := constsB l), constsB_dat, (compact_sorted _ (sortS_sorted _)).2]
  unfold sortS
  rw [List.mem_mergeSort, mem_map_dat]
/-- Does a list have a string? -/
def hasB (l : List ByteArray) (s : ByteArray) : Bool := l.any (fun x => decide (x = s))
theorem hasB_iff {l : List ByteArray} {s : ByteArray} : hasB l s = true ↔ s ∈ l := by
  unfold hasB
  rw [List.any_eq_true]
  constructor
  · rintro ⟨x, hx, h⟩; rw [← of_decide_eq_true h]; exact hx
  · intro h; exact ⟨s, h, decide_eq_true rfl⟩
/-- One string more, in its place. -/
def putB (l : List ByteArray) (s : ByteArray) : List ByteArray := if hasB l s = true then l else l.takeWhile (fun x => lessB x s) ++ s :: l.dropWhile (fun x => lessB x s)
theorem putB_mem {l : List ByteArray} {s x : ByteArray} : x ∈ putB l s ↔ x = s ∨ x ∈ l := by
  unfold putB
  split
  · rename_i h
    constructor
    · exact Or.inr
    · rintro (rfl | h2)
      · exact hasB_iff.1 h
      · exact h2
  · have e : l = l.takeWhile (fun x => lessB x s) ++ l.dropWhile (fun x => lessB x s) := (List.takeWhile_append_dropWhile).symm
    conv => rhs; rw [e]
    simp only [List.mem_append, List.mem_cons]
    constructor
    · rintro (h | h | h) <;> simp [h]
    · rintro (h | h | h) <;> simp [h]
theorem mem_tw {α : Type} {p : α → Bool} : ∀ {l : List α} {x : α}, x ∈ l.takeWhile p → p x = true
  | [], _, h => by simp at h
  | a :: l, x, h => by
    rw [List.takeWhile_cons] at h
    split at h
    · rename_i hp
      rcases List.mem_cons.1 h with rfl | h
      · exact hp
      · exact mem_tw h
    · simp at h
theorem putB_strict {l : List ByteArray} (s : ByteArray) (h : Strict (l.map dat)) : Strict ((putB l s).map dat) := by
  unfold putB
  split
  · exact h
  rename_i hs
  replace hs : ¬ s ∈ l := fun h => hs (hasB_iff.2 h)
  have e : l = l.takeWhile (fun x => lessB x s) ++ l.dropWhile (fun x => lessB x s) := (List.takeWhile_append_dropWhile).symm
  have h' := h
  rw [e, List.map_append] at h'
  obtain ⟨h1, h2, h3⟩ := List.pairwise_append.1 h'
  have hlt : ∀ x ∈ l.takeWhile (fun x => lessB x s), Op.bytesLess (dat x) (dat s) = true := fun x hx => by
    have := mem_tw hx
    rwa [lessB, dat_toList, dat_toList] at this
  have hgt : ∀ x ∈ l.dropWhile (fun x => lessB x s), Op.bytesLess (dat s) (dat x) = true := by
    cases hd : l.dropWhile (fun x => lessB x s) with
    | nil => simp
    | cons y r =>
      have hy : lessB y s = false := by
        have := List.head_dropWhile_not (fun x => lessB x s) (w := by rw [hd]; simp)
        simpa [hd] using this
      rw [lessB, dat_toList, dat_toList] at hy
      have hne : dat s ≠ dat y := fun e2 => hs (by rw [dat_inj e2, e, hd]; simp)
      have hsy : Op.bytesLess (dat s) (dat y) = true := by
        cases h4 : Op.bytesLess (dat s) (dat y)
        · exact absurd (lessTri _ _ h4 hy) hne
        · rfl
      rw [hd, List.map_cons] at h2
      intro x hx
      rcases List.mem_cons.1 hx with rfl | hx
      · exact hsy
      · exact lessTrans _ _ _ hsy ((List.pairwise_cons.1 h2).1 _ (List.mem_map.2 ⟨x, hx, rfl⟩))
  rw [List.map_append, List.map_cons]
  refine List.pairwise_append.2 ⟨h1, List.pairwise_cons.2 ⟨fun x hx => ?_, h2⟩, fun x hx y hy => ?_⟩
  · obtain ⟨z, hz, rfl⟩ := List.mem_map.1 hx
    exact hgt z hz
  · obtain ⟨z, hz, rfl⟩ := List.mem_map.1 hx
    rcases List.mem_cons.1 hy with rfl | hy
    · exact hlt z hz
    · exact h3 _ hx _ hy
theorem puts_mem (l : List ByteArray) : ∀ (m : List ByteArray) (x : ByteArray), x ∈ l.foldl putB m ↔ x ∈ m ∨ x ∈ l := by
  induction l with
  | nil => intro m x; simp
  | cons a l ih =>
    intro m x
    rw [List.foldl_cons, ih, putB_mem]
    simp only [List.mem_cons]
    constructor
    · rintro ((h | h) | h) <;> simp [h]
    · rintro (h | h | h) <;> simp [h]
theorem puts_strict (l : List ByteArray) : ∀ (m : List ByteArray), Strict (m.map dat) → Strict ((l.foldl putB m).map dat) := by
  induction l with
  | nil => intro m h; exact h
  | cons a l ih => intro m h; rw [List.foldl_cons]; exact ih _ (putB_strict a h)
theorem map_dat_inj : ∀ {l m : List ByteArray}, l.map dat = m.map dat → l = m
  | [], [], _ => rfl
  | [], _ :: _, h => by simp at h
  | _ :: _, [], h => by simp at h
  | a :: l, b :: m, h => by
    simp only [List.map_cons, List.cons.injEq] at h
    rw [dat_inj h.1, map_dat_inj h.2]
/-- The reference's way and the program's are one. -/
theorem puts_consts (l : List ByteArray) : l.foldl putB [] = constsB l := by
  refine map_dat_inj (strict_eq _ _ (puts_strict l [] (by simp [Strict])) (constsB_strict l) (fun x => ?_))
  have h : ∀ m : List ByteArray, x ∈ m.map dat ↔ (⟨x.toArray⟩ : ByteArray) ∈ m := fun m => by
    rw [← mem_map_dat, dat_mk]
  rw [h, h, puts_mem, mem_constsB]
  simp

/-! ### The constants of a formula -/

mutual
/-- The words that no quantifier binds, from the first on. -/
def fmFrees : List ByteArray → Tree FmL → List ByteArray
  | bd, .mk a l => a.ws.filter (fun w => !hasB bd w) ++ fmFreess (if a.kind = 8 ∨ a.kind = 9 then bd ++ [a.nm] else bd) l
def fmFreess : List ByteArray → List (Tree FmL) → List ByteArray
  | _, [] => []
  | bd, t :: l => fmFrees bd t ++ fmFreess bd l
end
theorem fmFreess_append (bd : List ByteArray) : ∀ l m : List (Tree FmL), fmFreess bd (l ++ m) = fmFreess bd l ++ fmFreess bd m
  | [], m => by simp [fmFreess]
  | t :: l, m => by simp [fmFreess, fmFreess_append bd l m]
theorem fmFreess_take (bd : List ByteArray) (l : List (Tree FmL)) (j : Nat) (h : j < l.length) : fmFreess bd (l.take (j + 1)) = fmFreess bd (l.take j) ++ fmFrees bd l[j] := by
  rw [List.take_succ_eq_append_getElem h, fmFreess_append]; simp [fmFreess]
def fmConsts (t : Fm) : List ByteArray := constsB (fmFrees [] t)

end Go.Proofs.YtflcbbikfdahhaaDoor
