/-
  cmp.Compare, cmp.Or, truth.compare, slices.Compare, the reference's Code; truth.Validate's closures: the walks.
-/
import Derived.Test.YtflcbbikfdahhaaDoorProg
import Derived.Test.YtflcbbikfdahhaaDoorMd
import Derived.Test.YtflcbbikfdahhaaDoorSets
import Derived.Deep.DeepCutAuto
import Derived.BigQuiet
namespace Go.Proofs.YtflcbbikfdahhaaDoor
open Go Go.RowKit
set_option linter.unusedSimpArgs false
set_option linter.unusedVariables false

theorem wrap_ok (n : Int) (h0 : -9223372036854775808 ≤ n) (h1 : n < 9223372036854775808) : IntKind.i64.wrap n = n := by
  unfold IntKind.wrap
  simp [IntKind.bits, IntKind.signed]
  omega

theorem nanS_any (a : ByteArray) (w : World) : Calls Tryd.prog 131 #[.string a] w fun e w' => e = .returned (.bool false) ∧ w' = w := by
  have h : (a.toList == a.toList) = true := beq_self_eq_true _
  go_enter Tryd.func131, Tryd.ntmps131
  go_wp2_with fail
  go_returns
  exact ⟨rfl, rfl⟩
theorem nanI_any (a : Int) (w : World) : Calls Tryd.prog 130 #[.int .i64 a] w fun e w' => e = .returned (.bool false) ∧ w' = w := by
  go_enter Tryd.func130, Tryd.ntmps130
  go_wp2_with fail
  go_returns
  exact ⟨rfl, rfl⟩

theorem less_eq {a b : ByteArray} (h1 : Op.bytesLess a.toList b.toList = false) (h2 : Op.bytesLess b.toList a.toList = false) : (a.toList == b.toList) = true := by
  rw [beq_iff_eq]; exact less_tri _ _ h1 h2
theorem less_ne {a b : ByteArray} (h2 : Op.bytesLess b.toList a.toList = true) : (a.toList == b.toList) = false := by
  rw [beq_eq_false_iff_ne]; intro e; rw [e, less_irr] at h2; cases h2

set_option maxRecDepth 100000 in
theorem cmpS_any (a b : ByteArray) (w : World) : Calls Tryd.prog 99 #[.string a, .string b] w fun e w' => e = .returned (.int .i64 (cmpS a b)) ∧ w' = w := by
  have HE : Hid (∀ z : Int, cmpS a b = z → Ending.returned (.int .i64 z) = .returned (.int .i64 (cmpS a b))) := Lib.hid (fun z h => by rw [h])
  cases h1 : Op.bytesLess a.toList b.toList with
  | true =>
    have hf := HE.out (-1) (by unfold cmpS; rw [if_pos h1])
    have HF := Lib.hid hf
    clear hf
    go_enter Tryd.func99, Tryd.ntmps99
    go_wp2_with fail
    (with_reducible refine (nanS_any a _).mono ?_)
    rintro e w1 ⟨rfl, rfl⟩
    go_wp2_with fail
    (with_reducible refine (nanS_any b _).mono ?_)
    rintro e w1 ⟨rfl, rfl⟩
    go_wp2_with fail
    go_returns
    exact ⟨HF.out, rfl⟩
  | false =>
    cases h2 : Op.bytesLess b.toList a.toList with
    | true =>
      have hf := HE.out 1 (by unfold cmpS; rw [if_neg (by rw [h1]; decide), if_pos h2])
      have h3 := less_ne h2
      clear h2
      have HF := Lib.hid hf
      clear hf
      go_enter Tryd.func99, Tryd.ntmps99
      go_wp2_with fail
      (with_reducible refine (nanS_any a _).mono ?_)
      rintro e w1 ⟨rfl, rfl⟩
      go_wp2_with fail
      (with_reducible refine (nanS_any b _).mono ?_)
      rintro e w1 ⟨rfl, rfl⟩
      go_wp2_with fail
      go_returns
      exact ⟨HF.out, rfl⟩
    | false =>
      have hf := HE.out 0 (by unfold cmpS; rw [if_neg (by rw [h1]; decide), if_neg (by rw [h2]; decide)])
      have h3 := less_eq h1 h2
      clear h2
      have HF := Lib.hid hf
      clear hf
      go_enter Tryd.func99, Tryd.ntmps99
      go_wp2_with fail
      (with_reducible refine (nanS_any a _).mono ?_)
      rintro e w1 ⟨rfl, rfl⟩
      go_wp2_with fail
      (with_reducible refine (nanS_any b _).mono ?_)
      rintro e w1 ⟨rfl, rfl⟩
      go_wp2_with fail
      go_returns
      exact ⟨HF.out, rfl⟩

set_option maxRecDepth 100000 in
theorem cmpI_any (a b : Int) (w : World) : Calls Tryd.prog 97 #[.int .i64 a, .int .i64 b] w fun e w' => e = .returned (.int .i64 (cmpI a b)) ∧ w' = w := by
  have HE : Hid (∀ z : Int, cmpI a b = z → Ending.returned (.int .i64 z) = .returned (.int .i64 (cmpI a b))) := Lib.hid (fun z h => by rw [h])
  have h3 : (a < b ∧ cmpI a b = -1) ∨ (¬ a < b ∧ b < a ∧ cmpI a b = 1) ∨ (¬ a < b ∧ ¬ b < a ∧ cmpI a b = 0) := by
    unfold cmpI
    split
    · rename_i h; exact Or.inl ⟨h, rfl⟩
    · rename_i h
      split
      · rename_i h2; exact Or.inr (Or.inl ⟨h, h2, rfl⟩)
      · rename_i h2; exact Or.inr (Or.inr ⟨h, h2, rfl⟩)
  rcases h3 with ⟨h1, hz⟩ | ⟨h1, h2, hz⟩ | ⟨h1, h2, hz⟩
  all_goals
    have hf := HE.out _ hz
    clear hz
    have HF := Lib.hid hf
    clear hf
    go_enter Tryd.func97, Tryd.ntmps97
    go_wp2_with fail
    (with_reducible refine (nanI_any a _).mono ?_)
    rintro e w1 ⟨rfl, rfl⟩
    go_wp2_with fail
    (with_reducible refine (nanI_any b _).mono ?_)
    rintro e w1 ⟨rfl, rfl⟩
    go_wp2_with fail
    go_returns
    exact ⟨HF.out, rfl⟩

/-- The first of two numbers that is not 0. -/
def orF (a b : Int) : Int := if a ≠ 0 then a else b
set_option maxRecDepth 100000 in
theorem or_any (a b : Int) (blk o : Nat) (w : World) (h0 : w.cell? ⟨blk, o, none⟩ = some (.int .i64 a)) (h1 : w.cell? ⟨blk, o + 1, none⟩ = some (.int .i64 b)) :
    Calls Tryd.prog 98 #[.slice (some ⟨blk, o, none⟩) 2 2] w fun e w' => e = .returned (.int .i64 (orF a b)) ∧ w' = w := by
  have HE : Hid (∀ z : Int, orF a b = z → Ending.returned (.int .i64 z) = .returned (.int .i64 (orF a b))) := Lib.hid (fun z h => by rw [h])
  have hl := World.block_lt_of_cell? w _ h0
  go_enter Tryd.func98, Tryd.ntmps98
  go_wp2_with fail
  go_loopg [8] 2 (fun k v8 wr => ∃ j : Nat, v8 = .int .i64 (j : Nat) ∧ w = wr ∧ j + k = 2 ∧ (j = 0 ∨ a = 0) ∧ (j = 2 → b = 0))
  case atStart => exact ⟨0, rfl, rfl, by omega, Or.inl rfl, by omega⟩
  case round =>
    obtain ⟨j, rfl, hw, hj, ha, hb⟩ := hrel
    subst hw
    rcases (by omega : j = 0 ∨ j = 1 ∨ j = 2) with rfl | rfl | rfl
    · by_cases hz : a = 0
      · subst hz
        go_wp2_with fail
        go_roundg 1
        case measure => omega
        case rel => exact ⟨1, by go_num, by trivial, by omega, Or.inr (by trivial), by omega⟩
      · have q1 : (a != 0) = true := bne_iff_ne.2 hz
        have hf := HE.out a (by unfold orF; rw [if_pos hz])
        clear hz
        have HF := Lib.hid hf
        clear hf
        go_wp2_with fail
        go_returns
        exact ⟨HF.out, rfl⟩
    · obtain rfl : a = 0 := ha.resolve_left (by omega)
      by_cases hz : b = 0
      · subst hz
        go_wp2_with fail
        go_roundg 0
        case measure => omega
        case rel => exact ⟨2, by go_num, by trivial, by omega, Or.inr (by trivial), fun _ => by trivial⟩
      · have q1 : (b != 0) = true := bne_iff_ne.2 hz
        have hf := HE.out b (by unfold orF; simp)
        clear hz
        have HF := Lib.hid hf
        clear hf
        go_wp2_with fail
        go_returns
        exact ⟨HF.out, rfl⟩
    · obtain rfl : a = 0 := ha.resolve_left (by omega)
      obtain rfl := hb rfl
      have hf := HE.out 0 (by unfold orF; simp)
      have HF := Lib.hid hf
      clear hf
      go_wp2_with fail
      go_returns
      exact ⟨HF.out, rfl⟩

theorem cmpR_or (a b : Rel) : cmpR a b = orF (cmpS a.nm b.nm) (cmpI a.ar b.ar) := rfl

set_option maxRecDepth 100000 in
theorem code_any (l : List Int) (A : Option Addr) (c : Nat) (sz : Int) (w : World) (S : Nat → Prop) (h : zRep.Sl w S (.slice A l.length c) l) (hl : l.length ≤ 3) (hs : 1 ≤ sz ∧ sz ≤ 6) (hv : l.any (badV sz) = false) :
    Calls Tryd.prog 72 #[.slice A l.length c, .int .i64 sz] w fun e w' => e = .returned (.int .i64 (codeN sz 0 l)) ∧ w' = w := by
  have HE : Hid (∀ z : Int, codeN sz 0 l = z → Ending.returned (.int .i64 z) = .returned (.int .i64 (codeN sz 0 l))) := Lib.hid (fun z h => by rw [h])
  have HL := Lib.hid h
  have hb : ∀ j (hj : j < l.length), 0 ≤ l[j] ∧ l[j] < sz := by
    intro j hj
    rw [List.any_eq_false] at hv
    have := hv l[j] (List.getElem_mem hj)
    simp only [badV, decide_eq_true_eq] at this
    omega
  have HB := Lib.hid hb
  clear h hv hb
  go_enter Tryd.func72, Tryd.ntmps72
  go_wp2_with fail
  go_loopg [5, 10] l.length (fun k v5 v10 wr => ∃ (j : Nat) (n : Int), v5 = .int .i64 n ∧ v10 = .int .i64 (j : Nat) ∧ w = wr ∧ j + k = l.length ∧ codeN sz n (l.drop j) = codeN sz 0 l ∧ 0 ≤ n ∧ n < 10000 ∧ (j = 0 → n = 0) ∧ (j = 1 → n < 6) ∧ (j = 2 → n < 36) ∧ (j = 3 → n < 216))
  case atStart => exact ⟨0, 0, rfl, rfl, rfl, by omega, by simp, by omega, by omega, fun _ => rfl, by omega, by omega, by omega⟩
  case round =>
    obtain ⟨j, n, rfl, rfl, hw, hj, hc, hn0, hn1, h0, h1, h2, h3⟩ := hrel
    subst hw
    by_cases hjl : j < l.length
    · obtain ⟨b, o, cs, hA, hSb, hx, hcell⟩ := Rep.Sl.at_ HL.out (k := j) (a := l[j]) (by simp [hjl])
      obtain rfl : cs = [.int .i64 l[j]] := hx
      subst hA
      have e0 : w.cell? ⟨b, o + j, none⟩ = some (.int .i64 l[j]) := by have := hcell 0 _ rfl; simpa [zRep] using this
      have hlb := World.block_lt_of_cell? w _ e0
      obtain ⟨v, hv⟩ : ∃ v, l[j] = v := ⟨_, rfl⟩
      obtain ⟨v0, v1⟩ := HB.out j hjl
      rw [hv] at e0 v0 v1
      have hd : l.drop j = v :: l.drop (j + 1) := by rw [List.drop_eq_getElem_cons hjl, hv]
      rw [hd] at hc
      simp only [codeN] at hc
      have q0 : (0 : Int) ≤ (j : Int) := by omega
      have q1 : (j : Int) < (l.length : Int) := by omega
      have hms : n * sz ≤ n * 6 := Int.mul_le_mul_of_nonneg_left hs.2 hn0
      have hm0 : 0 ≤ n * sz := Int.mul_nonneg hn0 (by omega)
      have hw1 : IntKind.i64.wrap (n * sz) = n * sz := wrap_ok _ (by omega) (by omega)
      have hw2 : IntKind.i64.wrap (n * sz + v) = n * sz + v := wrap_ok _ (by omega) (by omega)
      have HC := Lib.hid hc
      have k1 : n * sz + v < 10000 := by omega
      have k2 : j + 1 = 1 → n * sz + v < 6 := fun e => by rw [h0 (by omega)]; omega
      have k3 : j + 1 = 2 → n * sz + v < 36 := fun e => by have := h1 (by omega); omega
      have k4 : j + 1 = 3 → n * sz + v < 216 := fun e => by have := h2 (by omega); omega
      clear hc hv hd
      have H0 := Lib.hid h0
      have H1 := Lib.hid h1
      have H2 := Lib.hid h2
      have H3 := Lib.hid h3
      have K2 := Lib.hid k2
      have K3 := Lib.hid k3
      have K4 := Lib.hid k4
      clear h0 h1 h2 h3 k2 k3 k4
      go_wp2_with fail
      go_roundg (l.length - (j + 1))
      case measure => omega
      case rel => exact ⟨j + 1, n * sz + v, by first | rfl | simp only [hw1, hw2], by go_num, by trivial, by omega, HC.out, by omega, k1, by omega, K2.out, K3.out, K4.out⟩
    · have q1 : ¬ (j : Int) < (l.length : Int) := by omega
      have hf := HE.out n (by rw [← hc, List.drop_eq_nil_of_le (by omega)]; rfl)
      clear hc
      have HF := Lib.hid hf
      clear hf
      go_wp2_with fail
      go_returns
      exact ⟨HF.out, rfl⟩

/-- One element of a row. -/
theorem int_at {w : World} {S : Nat → Prop} {A : Option Addr} {n c j : Nat} {l : List Int} (h : zRep.Sl w S (.slice A n c) l) (hj : j < l.length) : ∃ b o, A = some ⟨b, o, none⟩ ∧ S b ∧ w.cell? ⟨b, o + j, none⟩ = some (.int .i64 l[j]) := by
  obtain ⟨b, o, cs, hA, hSb, hx, hcell⟩ := Rep.Sl.at_ h (k := j) (a := l[j]) (by simp [hj])
  obtain rfl : cs = [.int .i64 l[j]] := hx
  exact ⟨b, o, hA, hSb, by have := hcell 0 _ rfl; simpa [zRep] using this⟩

set_option maxRecDepth 100000 in
set_option maxHeartbeats 1000000 in
theorem cmpL_any (l r : List Int) (A B : Option Addr) (c d : Nat) (w : World) (S : Nat → Prop) (h : zRep.Sl w S (.slice A l.length c) l) (g : zRep.Sl w S (.slice B r.length d) r) :
    Calls Tryd.prog 70 #[.slice A l.length c, .slice B r.length d] w fun e w' => e = .returned (.int .i64 (cmpL l r)) ∧ w' = w := by
  have HE : Hid (∀ z : Int, cmpL l r = z → Ending.returned (.int .i64 z) = .returned (.int .i64 (cmpL l r))) := Lib.hid (fun z h => by rw [h])
  have hl : l.length ≤ maxLen := h.shape.choose_spec.choose_spec.2
  have hr : r.length ≤ maxLen := g.shape.choose_spec.choose_spec.2
  unfold maxLen at hl hr
  have H := Lib.hid h
  have G := Lib.hid g
  clear h g
  go_enter Tryd.func70, Tryd.ntmps70
  go_wp2_with fail
  go_loopg [11] l.length (fun k v11 wr => ∃ j : Nat, v11 = .int .i64 (j : Nat) ∧ w = wr ∧ j + k = l.length ∧ cmpL (l.drop j) (r.drop j) = cmpL l r ∧ j ≤ r.length)
  case atStart => exact ⟨0, rfl, rfl, by omega, by simp, by omega⟩
  case round =>
    obtain ⟨j, rfl, hw, hj, hc, hjr⟩ := hrel
    subst hw
    by_cases hjl : j < l.length
    · obtain ⟨b, o, hA, hSb, e0⟩ := int_at H.out hjl
      subst hA
      have hlb := World.block_lt_of_cell? w _ e0
      have q0 : (0 : Int) ≤ (j : Int) := by omega
      have q1 : (j : Int) < (l.length : Int) := by omega
      rw [List.drop_eq_getElem_cons hjl] at hc
      by_cases hjr2 : j < r.length
      · obtain ⟨b2, o2, hB, hSb2, e1⟩ := int_at G.out hjr2
        subst hB
        have hlb2 := World.block_lt_of_cell? w _ e1
        have q2 : ¬ (r.length : Int) ≤ (j : Int) := by omega
        have q3 : (j : Int) < (r.length : Int) := by omega
        rw [List.drop_eq_getElem_cons hjr2] at hc
        simp only [cmpL] at hc
        have hci := fun W : World => cmpI_any l[j] r[j] W
        obtain ⟨z, hz⟩ : ∃ z, cmpI l[j] r[j] = z := ⟨_, rfl⟩
        rw [hz] at hc hci
        obtain ⟨u, hu⟩ : ∃ u, l[j] = u := ⟨_, rfl⟩
        obtain ⟨v, hv⟩ : ∃ v, r[j] = v := ⟨_, rfl⟩
        rw [hu] at e0 hci
        rw [hv] at e1 hci
        clear hz hu hv
        by_cases hz0 : z = 0
        · subst hz0
          have hc2 : cmpL (l.drop (j + 1)) (r.drop (j + 1)) = cmpL l r := by simpa using hc
          clear hc
          have HC2 := Lib.hid hc2
          have HCI := Lib.hid hci
          clear hc2 hci
          go_wp2_with fail
          (with_reducible refine (HCI.out _).mono ?_)
          rintro e w1 ⟨rfl, rfl⟩
          go_wp2_with fail
          go_roundg (l.length - (j + 1))
          case measure => omega
          case rel => exact ⟨j + 1, by go_num, by trivial, by omega, HC2.out, by omega⟩
        · have q4 : (z != 0) = true := bne_iff_ne.2 hz0
          have hf := HE.out z (by rw [← hc, if_pos hz0])
          clear hc hz0
          have HF := Lib.hid hf
          have HCI := Lib.hid hci
          clear hf hci
          go_wp2_with fail
          (with_reducible refine (HCI.out _).mono ?_)
          rintro e w1 ⟨rfl, rfl⟩
          go_wp2_with fail
          go_returns
          exact ⟨HF.out, rfl⟩
      · have q2 : (r.length : Int) ≤ (j : Int) := by omega
        have hdr : r.drop j = [] := List.drop_eq_nil_of_le (by omega)
        rw [hdr] at hc
        have hf := HE.out 1 (by rw [← hc]; rfl)
        clear hc
        have HF := Lib.hid hf
        clear hf
        go_wp2_with fail
        go_returns
        exact ⟨HF.out, rfl⟩
    · have q1 : ¬ (j : Int) < (l.length : Int) := by omega
      have hdl : l.drop j = [] := List.drop_eq_nil_of_le (by omega)
      rw [hdl] at hc
      by_cases hlr : l.length < r.length
      · have q2 : (l.length : Int) < (r.length : Int) := by omega
        rw [List.drop_eq_getElem_cons (l := r) (i := j) (by omega)] at hc
        have hf := HE.out (-1) (by rw [← hc]; rfl)
        clear hc
        have HF := Lib.hid hf
        clear hf
        go_wp2_with fail
        go_returns
        exact ⟨HF.out, rfl⟩
      · have q2 : ¬ (l.length : Int) < (r.length : Int) := by omega
        have hdr : r.drop j = [] := List.drop_eq_nil_of_le (by omega)
        rw [hdr] at hc
        have hf := HE.out 0 (by rw [← hc]; rfl)
        clear hc
        have HF := Lib.hid hf
        clear hf
        go_wp2_with fail
        go_returns
        exact ⟨HF.out, rfl⟩

/-- The two closures that say what is wrong: the place is read from their box. -/
theorem bad1_any (b : Nat) (code i : Int) (w : World) (h : w.cell? ⟨b, 0, none⟩ = some (.int .i64 i)) :
    Calls Tryd.prog 73 #[.int .i64 code, .pointer (some ⟨b, 0, none⟩)] w fun e w' => e = .returned (.agg #[.int .i64 code, .int .i64 i]) ∧ Below w.heap.size w w' := by
  have hb := World.block_lt_of_cell? w _ h
  go_enter Tryd.func73, Tryd.ntmps73
  go_wp2_with fail
  refine bodyPost_ret (v := .agg #[.int .i64 code, .int .i64 i]) (by simp [results, Tryd.results73, go_sem]) rfl ?_
  exact ⟨rfl, by go_grown⟩
theorem bad2_any (b : Nat) (code i : Int) (w : World) (h : w.cell? ⟨b, 0, none⟩ = some (.int .i64 i)) :
    Calls Tryd.prog 74 #[.int .i64 code, .pointer (some ⟨b, 0, none⟩)] w fun e w' => e = .returned (.agg #[.int .i64 code, .int .i64 i]) ∧ Below w.heap.size w w' := by
  have hb := World.block_lt_of_cell? w _ h
  go_enter Tryd.func74, Tryd.ntmps74
  go_wp2_with fail
  refine bodyPost_ret (v := .agg #[.int .i64 code, .int .i64 i]) (by simp [results, Tryd.results74, go_sem]) rfl ?_
  exact ⟨rfl, by go_grown⟩

end Go.Proofs.YtflcbbikfdahhaaDoor
