/-
  The text of a term is read as the term (trd). Nothing here names a function.
-/
import Derived.Test.YtnoceodmnjhljaaDoorTermF
import Derived.Test.YtnoceodmnjhljaaDoorTmText
namespace Go.Proofs.YtnoceodmnjhljaaDoor
open Go Go.RowKit
set_option linter.unusedSimpArgs false
set_option linter.unusedVariables false

theorem numG_dig {x : ByteArray} {frm f n a d : Nat} {r : List UInt8} (hd : d < 10) (h : x.data.toList.drop a = UInt8.ofNat (48 + d) :: r) (h0 : frm < a → n ≠ 0) (h2 : 10 * n + d < 200) : numG x frm (f + 1) n a = numG x frm f (10 * n + d) (a + 1) ∧ a < x.size ∧ x.data.toList.drop (a + 1) = r := by
  obtain ⟨h3, h4, h5⟩ := byte_drop h
  have h6 : (UInt8.ofNat (48 + d)).toNat = 48 + d := by simp [UInt8.toNat_ofNat]; omega
  rw [h6] at h3
  refine ⟨?_, h4, h5⟩
  rw [numG_go ⟨h4, by omega, by omega, fun h => h0 h.1 h.2, by omega⟩, show byteAt x a - 48 = d by omega]
/-- The digits of a number below 200 ahead of something else are read as it. -/
theorem numF_dec (x : ByteArray) (i m : Nat) (r : List UInt8) (hm : m < 200) (h : x.data.toList.drop i = Lib.decDigits m ++ r) (hr : ¬ (48 ≤ byteAt x (i + (Lib.decDigits m).length) ∧ byteAt x (i + (Lib.decDigits m).length) ≤ 57)) :
    numF x i = (m, i + (Lib.decDigits m).length) := by
  unfold numF
  by_cases h1 : m < 10
  · rw [Lib.decDigits_one h1] at h hr ⊢
    simp only [List.cons_append, List.nil_append, List.length_cons, List.length_nil] at h hr ⊢
    obtain ⟨f, hf⟩ : ∃ f, x.size + 1 - i = f + 1 := ⟨x.size - i, by have := (byte_drop h).2.1; omega⟩
    rw [hf]
    obtain ⟨e, _, _⟩ := numG_dig (frm := i) (f := f) (n := 0) h1 h (by omega) (by omega)
    rw [e, numG_stop (by rintro ⟨_, a, b, _⟩; exact hr ⟨a, b⟩)]
    simp
  by_cases h2 : m < 100
  · rw [Lib.decDigits_two h1 h2] at h hr ⊢
    simp only [List.cons_append, List.nil_append, List.length_cons, List.length_nil] at h hr ⊢
    obtain ⟨f, hf⟩ : ∃ f, x.size + 1 - i = f + 1 + 1 := ⟨x.size - i - 1, by
      have a := byte_drop h
      have b := byte_drop a.2.2
      omega⟩
    rw [hf]
    obtain ⟨e, _, h5⟩ := numG_dig (frm := i) (f := f + 1) (n := 0) (d := m / 10) (by omega) h (by omega) (by omega)
    obtain ⟨e2, _, _⟩ := numG_dig (frm := i) (f := f) (n := 10 * 0 + m / 10) (d := m % 10) (by omega) h5 (by omega) (by omega)
    rw [e, e2, numG_stop (by rintro ⟨_, a, b, _⟩; exact hr ⟨a, b⟩)]
    have hdm := Nat.div_add_mod m 10
    have hdm2 := Nat.div_add_mod (m / 10) 10
    refine Prod.ext ?_ ?_
    · show _ = m
      omega
    · show _ = i + _
      omega
  · have e3 : Lib.decDigits m = [UInt8.ofNat (48 + m / 10 / 10), UInt8.ofNat (48 + m / 10 % 10), UInt8.ofNat (48 + m % 10)] := by
      rw [Lib.decDigits, dif_neg h1, Lib.decDigits_two (by omega) (by omega)]; rfl
    rw [e3] at h hr ⊢
    simp only [List.cons_append, List.nil_append, List.length_cons, List.length_nil] at h hr ⊢
    obtain ⟨f, hf⟩ : ∃ f, x.size + 1 - i = f + 1 + 1 + 1 := ⟨x.size - i - 2, by
      have a := byte_drop h
      have b := byte_drop a.2.2
      have c := byte_drop b.2.2
      omega⟩
    rw [hf]
    obtain ⟨e, _, h5⟩ := numG_dig (frm := i) (f := f + 1 + 1) (n := 0) (d := m / 10 / 10) (by omega) h (by omega) (by omega)
    obtain ⟨e2, _, h6⟩ := numG_dig (frm := i) (f := f + 1) (n := 10 * 0 + m / 10 / 10) (d := m / 10 % 10) (by omega) h5 (by omega) (by omega)
    obtain ⟨e4, _, _⟩ := numG_dig (frm := i) (f := f) (n := 10 * (10 * 0 + m / 10 / 10) + m / 10 % 10) (d := m % 10) (by omega) h6 (by omega) (by omega)
    rw [e, e2, e4, numG_stop (by rintro ⟨_, a, b, _⟩; exact hr ⟨a, b⟩)]
    have hdm := Nat.div_add_mod m 10
    have hdm2 := Nat.div_add_mod (m / 10) 10
    refine Prod.ext ?_ ?_
    · show _ = m
      omega
    · show _ = i + _
      omega

theorem ext_list (x : ByteArray) (i j : Nat) : (x.extract i (i + j)).data.toList = (x.data.toList.drop i).take j := by
  rw [ByteArray.data_extract, Array.toList_extract]
  simp [List.extract_eq_take_drop]
theorem okName_list {s : ByteArray} {l : List UInt8} (h : s.data.toList = l) : okName s = (decide (1 ≤ l.length) && decide (l.length ≤ 30) && isLow (l.headD 0) && l.all (fun c => isLow c || isOther c)) := by
  subst h
  unfold okName
  have : s.data.toList.length = s.size := by rw [Array.length_toList]; rfl
  rw [this]
/-- A name ahead of a colon is read as it. -/
theorem nameE_name (x nm : ByteArray) (i : Nat) (r : List UInt8) (hok : okName nm = true) (h : x.data.toList.drop i = nm.data.toList ++ 58 :: r) : nameE x i = i + nm.size ∧ x.extract i (i + nm.size) = nm := by
  have hl : nm.data.toList.length = nm.size := by rw [Array.length_toList]; rfl
  have hsz : i + nm.size < x.size := by
    have h1 := congrArg List.length h
    have h2 : x.data.toList.length = x.size := by rw [Array.length_toList]; rfl
    simp only [List.length_drop, List.length_append, List.length_cons, h2, hl] at h1
    omega
  have hex : x.extract i (i + nm.size) = nm := by
    have h1 := ext_list x i nm.size
    rw [h, ← hl, List.take_left, hl] at h1
    exact (bytes_mk h1).trans (bytes_mk rfl).symm
  have hn := hok
  rw [okName_list rfl] at hn
  simp only [Bool.and_eq_true, decide_eq_true_eq, hl] at hn
  obtain ⟨⟨⟨h1, h2⟩, h3⟩, h4⟩ := hn
  have hpre : ∀ j, 1 ≤ j → j ≤ nm.size → okName (x.extract i (i + j)) = true := fun j hj1 hj2 => by
    have e := ext_list x i j
    rw [h, List.take_append_of_le_length (by rw [hl]; exact hj2)] at e
    rw [okName_list e]
    simp only [Bool.and_eq_true, decide_eq_true_eq, List.length_take, hl]
    refine ⟨⟨⟨by omega, by omega⟩, ?_⟩, ?_⟩
    · cases hn : nm.data.toList with
      | nil => rw [hn] at hl; simp at hl; omega
      | cons c l =>
        rw [hn] at h3
        cases j with
        | zero => omega
        | succ j => exact h3
    · rw [List.all_eq_true] at h4 ⊢
      exact fun c hc => h4 c (List.mem_of_mem_take hc)
  have hbad : okName (x.extract i (i + nm.size + 1)) = false := by
    have e := ext_list x i (nm.size + 1)
    rw [h, ← hl, List.take_length_add_append, hl] at e
    rw [show i + nm.size + 1 = i + (nm.size + 1) by omega, okName_list e]
    simp [isLow, isOther]
  have key : ∀ t j f, j + t = nm.size → x.size + 1 ≤ f + (i + j) → nameG x i f (i + j) = i + nm.size := by
    intro t
    induction t with
    | zero =>
      intro j f hj hf
      obtain rfl : j = nm.size := by omega
      cases f with
      | zero => rfl
      | succ f => rw [nameG, if_neg (by rintro ⟨_, _, h⟩; rw [hbad] at h; cases h)]
    | succ t ih =>
      intro j f hj hf
      cases f with
      | zero => omega
      | succ f =>
        rw [nameG, if_pos ⟨by omega, by omega, by have := hpre (j + 1) (by omega) (by omega); rwa [show i + (j + 1) = i + j + 1 by omega] at this⟩]
        have := ih (j + 1) f (by omega) (by omega)
        rwa [show i + (j + 1) = i + j + 1 by omega] at this
  refine ⟨?_, hex⟩
  have := key nm.size 0 (x.size + 1 - i) (by omega) (by omega)
  exact this

theorem drop_app {x : ByteArray} {i : Nat} {a b : List UInt8} (h : x.data.toList.drop i = a ++ b) : x.data.toList.drop (i + a.length) = b := by
  rw [← List.drop_drop, h, List.drop_left]
theorem Sy.lims {s : Sy} (h : s.ty.fault = 0) : s.nodes ≤ 200 ∧ s.depth ≤ 40 := by
  obtain ⟨s', e, h1, h2⟩ := Ty.of_fault h
  obtain rfl := Sy.ty_inj _ _ e
  exact ⟨h1, h2⟩
/-- The text of a term is read as the term. -/
theorem trd_text (x : ByteArray) : ∀ (v : Tv) (bd k i n : Nat) (r : List UInt8), v.ok bd → bd + v.depth ≤ 200 → x.data.toList.drop i = v.text ++ r → ¬ (48 ≤ byteAt x (i + v.text.length) ∧ byteAt x (i + v.text.length) ≤ 57) → v.depth ≤ k → n + v.nodes ≤ 200 →
    trd x k i n = .ok v (i + v.text.length) (n + v.nodes)
  | .var m, bd, k, i, n, r, hok, hb, h, hr, hk, hn => by
    have hm : m < bd := hok
    simp only [Tv.depth, Tv.nodes] at hb hk hn
    obtain ⟨k, rfl⟩ : ∃ q, k = q + 1 := ⟨k - 1, by omega⟩
    simp only [Tv.text, List.cons_append, List.length_cons] at h hr ⊢
    obtain ⟨h1, _, h2⟩ := byte_drop h
    have h1 : byteAt x i = 35 := h1
    have hnum := numF_dec x (i + 1) m r (by omega) h2 (by rwa [show i + 1 + (Lib.decDigits m).length = i + ((Lib.decDigits m).length + 1) by omega])
    unfold trd
    rw [if_pos (Or.inl h1), if_neg (by omega), if_pos h1, hnum]
    simp only
    have hne : (Lib.decDigits m).length ≠ 0 := by
      rw [Lib.decDigits]; split <;> simp
    rw [if_neg (by omega)]
    simp only [Tv.nodes]
    congr 1 <;> omega
  | .con nm s, bd, k, i, n, r, hok, hb, h, hr, hk, hn => by
    simp only [Tv.depth, Tv.nodes] at hb hk hn
    obtain ⟨k, rfl⟩ : ∃ q, k = q + 1 := ⟨k - 1, by omega⟩
    have hl : nm.data.toList.length = nm.size := by rw [Array.length_toList]; rfl
    simp only [Tv.text, List.append_assoc, List.cons_append, List.length_append, List.length_cons, hl] at h hr ⊢
    obtain ⟨e1, e2⟩ := nameE_name x nm i _ hok.1 h
    have hlow : 97 ≤ byteAt x i ∧ byteAt x i ≤ 122 := by
      have hn2 := hok.1
      unfold okName at hn2
      simp only [Bool.and_eq_true, decide_eq_true_eq] at hn2
      obtain ⟨⟨⟨g1, _⟩, g3⟩, _⟩ := hn2
      cases hc : nm.data.toList with
      | nil => rw [hc] at hl; simp at hl; omega
      | cons c l =>
        rw [hc] at h g3
        rw [(byte_drop h).1]
        simpa [isLow] using g3
    have h58 := drop_app h
    rw [hl] at h58
    obtain ⟨h5, _, h6⟩ := byte_drop h58
    have h5 : byteAt x (i + nm.size) = 58 := h5
    obtain ⟨l1, l2⟩ := Sy.lims hok.2
    have hrd := rd_text x s 40 (i + nm.size + 1) 0 r h6 l2 (by omega)
    unfold trd
    rw [if_pos (Or.inr (Or.inr (Or.inr hlow))), if_neg (by omega), if_neg (by omega), if_neg (by omega), if_neg (by omega), e1, if_pos h5, hrd, e2]
    simp only [Tv.nodes]
    congr 1 <;> omega
  | .abs s b, bd, k, i, n, r, hok, hb, h, hr, hk, hn => by
    simp only [Tv.depth, Tv.nodes] at hb hk hn
    obtain ⟨k, rfl⟩ : ∃ q, k = q + 1 := ⟨k - 1, by omega⟩
    simp only [Tv.text, List.append_assoc, List.cons_append, List.length_append, List.length_cons, List.length_nil, List.nil_append] at h hr ⊢
    obtain ⟨h1, _, h2⟩ := byte_drop h
    have h1 : byteAt x i = 91 := h1
    obtain ⟨l1, l2⟩ := Sy.lims hok.1
    have hrd := rd_text x s 40 (i + 1) 0 _ h2 l2 (by omega)
    obtain ⟨h3, _, h4⟩ := byte_drop (drop_app h2)
    have h3 : byteAt x (i + 1 + s.bytes.length) = 32 := h3
    obtain ⟨h5, _, h6⟩ := byte_drop (drop_app h4)
    have h5 : byteAt x (i + 1 + s.bytes.length + 1 + b.text.length) = 93 := h5
    have ih := trd_text x b (bd + 1) k (i + 1 + s.bytes.length + 1) (n + 1) _ hok.2 (by omega) h4 (by omega) (by omega) (by omega)
    unfold trd
    rw [if_pos (Or.inr (Or.inl h1)), if_neg (by omega), if_neg (by omega), if_pos h1, hrd]
    simp only
    rw [if_pos h3, ih]
    simp only
    rw [if_pos h5]
    simp only [Tv.nodes]
    congr 1 <;> omega
  | .app f y, bd, k, i, n, r, hok, hb, h, hr, hk, hn => by
    simp only [Tv.depth, Tv.nodes] at hb hk hn
    obtain ⟨k, rfl⟩ : ∃ q, k = q + 1 := ⟨k - 1, by omega⟩
    simp only [Tv.text, List.append_assoc, List.cons_append, List.length_append, List.length_cons, List.length_nil, List.nil_append] at h hr ⊢
    obtain ⟨h1, _, h2⟩ := byte_drop h
    have h1 : byteAt x i = 40 := h1
    obtain ⟨h3, _, h4⟩ := byte_drop (drop_app h2)
    have h3 : byteAt x (i + 1 + f.text.length) = 32 := h3
    obtain ⟨h5, _, h6⟩ := byte_drop (drop_app h4)
    have h5 : byteAt x (i + 1 + f.text.length + 1 + y.text.length) = 41 := h5
    have ih1 := trd_text x f bd k (i + 1) (n + 1) _ hok.1 (by omega) h2 (by omega) (by omega) (by omega)
    have ih2 := trd_text x y bd k (i + 1 + f.text.length + 1) (n + 1 + f.nodes) _ hok.2 (by omega) h4 (by omega) (by omega) (by omega)
    unfold trd
    rw [if_pos (Or.inr (Or.inr (Or.inl h1))), if_neg (by omega), if_neg (by omega), if_neg (by omega), if_pos h1, ih1]
    simp only
    rw [if_pos h3, ih2]
    simp only
    rw [if_pos h5]
    simp only [Tv.nodes]
    congr 1 <;> omega

theorem numG_le {x : ByteArray} {frm : Nat} : ∀ (f n a : Nat), a ≤ x.size → (numG x frm f n a).2 ≤ x.size
  | 0, _, _, h => h
  | f + 1, n, a, h => by
    unfold numG
    split
    · rename_i h2; exact numG_le f _ _ (by omega)
    · exact h
theorem nameG_le {x : ByteArray} {frm : Nat} : ∀ (f a : Nat), a ≤ x.size → nameG x frm f a ≤ x.size
  | 0, _, h => h
  | f + 1, a, h => by
    unfold nameG
    split
    · rename_i h2; exact nameG_le f _ (by omega)
    · exact h
theorem termF_fits (x : ByteArray) : ∀ (k : Nat) (s : St), s.fits x → (termF x k s).2.fits x
  | 0, s, h => by
    unfold termF
    obtain ⟨h1, h2, h3, h4, h5⟩ := h
    split
    · rename_i hc
      have := h5 hc
      split
      · exact ⟨by simp only; omega, h2, h2, by simp, fun e => by simp at e⟩
      · exact ⟨h1, h2, h2, by simp, fun e => by simp at e⟩
    · exact ⟨h1, h2, h3, h4, h5⟩
  | k + 1, s, h => by
    unfold termF
    have hs := h
    obtain ⟨h1, h2, h3, h4, h5⟩ := h
    split
    · rename_i hc
      have h6 := h5 hc
      split
      · rename_i hst
        have hi : s.i < x.size := byteAt_lt (by unfold startB at hst; omega)
        split
        · exact ⟨by simp only; omega, h2, h2, by simp, fun e => by simp at e⟩
        · rename_i hn
          split
          · have hle := numG_le (frm := s.i + 1) (x.size + 1 - (s.i + 1)) 0 (s.i + 1) (show s.i + 1 ≤ x.size by omega)
            simp only
            split
            · exact ⟨by simp only; omega, by simp only; omega, by simp only; omega, by simp, fun e => by simp at e⟩
            · exact ⟨by simp only; omega, hle, h3, h4, fun _ => by simp only; omega⟩
          · split
            · have hp := partF_fits x 40 { s with i := s.i + 1, n := 0 } ⟨by simp, by simp only; omega, h3, h4, fun _ => by simp⟩
              refine takeF_fits (termF_fits x k _ (takeF_fits ?_ (by decide))) (by decide)
              obtain ⟨_, p2, p3, p4, _⟩ := hp
              exact ⟨by simp only; omega, p2, p3, p4, fun _ => by simp only; omega⟩
            · split
              · exact takeF_fits (termF_fits x k _ (takeF_fits (termF_fits x k _ ⟨by simp only; omega, by simp only; omega, h3, h4, fun _ => by simp only; omega⟩) (by decide))) (by decide)
              · have hle := nameG_le (x := x) (frm := s.i) (x.size + 1 - s.i) s.i h2
                have ht := takeF_fits (x := x) (s := { s with i := nameE x s.i, n := s.n + 1 }) (b := 58) ⟨by simp only; omega, hle, h3, h4, fun _ => by simp only; omega⟩ (by decide)
                obtain ⟨_, t2, t3, t4, _⟩ := ht
                have hp := partF_fits x 40 { takeF x { s with i := nameE x s.i, n := s.n + 1 } 58 with n := 0 } ⟨by simp, t2, t3, t4, fun _ => by simp⟩
                obtain ⟨_, p2, p3, p4, _⟩ := hp
                exact ⟨by simp only; omega, p2, p3, p4, fun _ => by simp only; omega⟩
      · exact ⟨h1, h2, h2, by simp, fun e => by simp at e⟩
    · exact hs

end Go.Proofs.YtnoceodmnjhljaaDoor
