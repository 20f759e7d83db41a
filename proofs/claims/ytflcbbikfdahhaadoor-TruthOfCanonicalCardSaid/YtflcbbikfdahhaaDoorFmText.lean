/-
  The text of a formula as bytes, and that it is read as the formula (frd). Nothing here names the program.
-/
import Derived.Test.YtflcbbikfdahhaaDoorFmVal
import Derived.Lib.Join
namespace Go.Proofs.YtflcbbikfdahhaaDoor
open Go Go.RowKit
set_option linter.unusedSimpArgs false
set_option linter.unusedVariables false

def signB (k : Nat) : UInt8 := if k = 5 then 38 else if k = 6 then 124 else 62
def quB (k : Nat) : List UInt8 := if k = 8 then [97, 108, 108] else [115, 111, 109, 101]
def wordsT : List ByteArray → List UInt8
  | [] => []
  | [a] => a.data.toList
  | a :: b :: l => a.data.toList ++ 44 :: wordsT (b :: l)
def Fv.text : Fv → List UInt8
  | .tru => [116, 114, 117, 101]
  | .pred n ws => n.data.toList ++ 40 :: (wordsT ws ++ [41])
  | .same a b => 40 :: (a.data.toList ++ 32 :: 61 :: 32 :: (b.data.toList ++ [41]))
  | .neg f => 45 :: f.text
  | .bin k f g => 40 :: (f.text ++ 32 :: signB k :: 32 :: (g.text ++ [41]))
  | .qu k x f => quB k ++ 32 :: (x.data.toList ++ 32 :: f.text)
theorem wordsT_join : ∀ ws : List ByteArray, wordsT ws = Lib.join (ws.map (fun a => a.data.toList)) [44]
  | [] => rfl
  | [a] => by simp [wordsT, Lib.join_one]
  | a :: b :: l => by
    have ih := wordsT_join (b :: l)
    simp only [wordsT, List.map_cons] at ih ⊢
    rw [ih, Lib.join_cons, Lib.join_cons]
    simp [Lib.joinTail]

theorem bytes_eqF {a b : ByteArray} (h : a.data.toList = b.data.toList) : a = b := by
  cases a; cases b
  simp only at h
  rw [Array.toList_inj.1 h]
theorem ext_listF (x : ByteArray) (i j : Nat) : (x.extract i (i + j)).data.toList = (x.data.toList.drop i).take j := by
  rw [ByteArray.data_extract, Array.toList_extract]
  simp [List.extract_eq_take_drop]
theorem okName_listF {s : ByteArray} {l : List UInt8} (h : s.data.toList = l) : okName s = (decide (1 ≤ l.length) && decide (l.length ≤ 30) && isLow (l.headD 0) && l.all (fun c => isLow c || isOther c)) := by
  subst h
  unfold okName
  have : s.data.toList.length = s.size := by rw [Array.length_toList]; rfl
  rw [this]
theorem drop_appF {x : ByteArray} {i : Nat} {a b : List UInt8} (h : x.data.toList.drop i = a ++ b) : x.data.toList.drop (i + a.length) = b := by
  rw [← List.drop_drop, h, List.drop_left]
/-- The byte behind what was read. -/
def headB (r : List UInt8) : Nat := match r with | [] => 0 | c :: _ => c.toNat
theorem byteAt_head {x : ByteArray} {j : Nat} {r : List UInt8} (h : x.data.toList.drop j = r) : byteAt x j = headB r := by
  cases r with
  | nil =>
    refine byteAt_out ?_
    have := congrArg List.length h
    simp only [List.length_drop, List.length_nil, bytes_len] at this
    omega
  | cons c r => exact (byte_drop h).1
/-- A name ahead of something that no name goes on with is read as it. -/
theorem nameE_at (x nm : ByteArray) (i : Nat) (r : List UInt8) (hok : okName nm = true) (h : x.data.toList.drop i = nm.data.toList ++ r) (hr : ∀ c l, r = c :: l → (isLow c || isOther c) = false) : nameE x i = i + nm.size ∧ x.extract i (i + nm.size) = nm := by
  have hl : nm.data.toList.length = nm.size := by rw [Array.length_toList]; rfl
  have hn := hok
  rw [okName_listF rfl] at hn
  simp only [Bool.and_eq_true, decide_eq_true_eq, hl] at hn
  obtain ⟨⟨⟨h1, h2⟩, h3⟩, h4⟩ := hn
  have hlen : nm.size + r.length = x.size - i := by
    have h1 := congrArg List.length h
    have h2 : x.data.toList.length = x.size := by rw [Array.length_toList]; rfl
    simp only [List.length_drop, List.length_append, h2, hl] at h1
    omega
  have hsz : i + nm.size ≤ x.size := by omega
  have hex : x.extract i (i + nm.size) = nm := by
    have h1 := ext_listF x i nm.size
    rw [h, ← hl, List.take_left, hl] at h1
    exact bytes_eqF h1
  have hpre : ∀ j, 1 ≤ j → j ≤ nm.size → okName (x.extract i (i + j)) = true := fun j hj1 hj2 => by
    have e := ext_listF x i j
    rw [h, List.take_append_of_le_length (by rw [hl]; exact hj2)] at e
    rw [okName_listF e]
    simp only [Bool.and_eq_true, decide_eq_true_eq, List.length_take, hl]
    refine ⟨⟨⟨by omega, by omega⟩, ?_⟩, ?_⟩
    · cases hn : nm.data.toList with
      | nil => rw [hn] at hl; simp at hl; omega
      | cons c l =>
        rw [hn] at h3
        cases j with
        | zero => omega
        | succ j => exact h3
    · rw [List.all_eq_true] at h4 ⊢
      exact fun c hc => h4 c (List.mem_of_mem_take hc)
  have hbad : i + nm.size < x.size → okName (x.extract i (i + nm.size + 1)) = false := fun hlt => by
    cases r with
    | nil => simp at hlen; omega
    | cons c l =>
      have hc := hr c l rfl
      have e := ext_listF x i (nm.size + 1)
      rw [h, ← hl, List.take_length_add_append, hl] at e
      rw [show i + nm.size + 1 = i + (nm.size + 1) by omega, okName_listF e]
      simp only [List.take_succ_cons, List.take_zero, List.all_append, List.all_cons, List.all_nil, hc, Bool.false_and, Bool.and_false]
  have key : ∀ t j f, j + t = nm.size → x.size + 1 ≤ f + (i + j) → nameG x i f (i + j) = i + nm.size := by
    intro t
    induction t with
    | zero =>
      intro j f hj hf
      obtain rfl : j = nm.size := by omega
      cases f with
      | zero => rfl
      | succ f => rw [nameG, if_neg (by rintro ⟨h5, _, h⟩; rw [hbad h5] at h; cases h)]
    | succ t ih =>
      intro j f hj hf
      cases f with
      | zero => omega
      | succ f =>
        rw [nameG, if_pos ⟨by omega, by omega, by have := hpre (j + 1) (by omega) (by omega); rwa [show i + (j + 1) = i + j + 1 by omega] at this⟩]
        have := ih (j + 1) f (by omega) (by omega)
        rwa [show i + (j + 1) = i + j + 1 by omega] at this
  refine ⟨?_, hex⟩
  have := key nm.size 0 (x.size + 1 - i) (by omega) (by omega)
  exact this
theorem okName_low {nm : ByteArray} (hok : okName nm = true) : ∃ c l, nm.data.toList = c :: l ∧ 97 ≤ c.toNat ∧ c.toNat ≤ 122 := by
  have hl : nm.data.toList.length = nm.size := by rw [Array.length_toList]; rfl
  rw [okName_listF rfl] at hok
  simp only [Bool.and_eq_true, decide_eq_true_eq] at hok
  obtain ⟨⟨⟨h1, _⟩, h3⟩, _⟩ := hok
  cases hc : nm.data.toList with
  | nil => rw [hc] at h1; simp at h1
  | cons c l =>
    rw [hc] at h3
    simp only [List.headD_cons, isLow, Bool.and_eq_true] at h3
    exact ⟨c, l, rfl, of_decide_eq_true h3.1, of_decide_eq_true h3.2⟩
theorem okName_sizeF {s : ByteArray} (h : okName s = true) : 1 ≤ s.size ∧ s.size ≤ 30 := by
  unfold okName at h
  simp only [Bool.and_eq_true, decide_eq_true_eq] at h
  exact ⟨h.1.1.1, h.1.1.2⟩
theorem low_at {x nm : ByteArray} {i : Nat} {r : List UInt8} (hok : okName nm = true) (h : x.data.toList.drop i = nm.data.toList ++ r) : 97 ≤ byteAt x i ∧ byteAt x i ≤ 122 := by
  obtain ⟨c, l, e, h1, h2⟩ := okName_low hok
  rw [e] at h
  rw [(byte_drop h).1]
  exact ⟨h1, h2⟩

theorem wordsG_text (x : ByteArray) : ∀ (ws : List ByteArray) (a : ByteArray) (f i : Nat) (l : List ByteArray) (r : List UInt8), (a :: ws).all okName = true → x.data.toList.drop i = wordsT (a :: ws) ++ 41 :: r → l.length + (a :: ws).length ≤ 3 → (a :: ws).length ≤ f →
    wordsG x f l i = .ok (l ++ a :: ws) (i + (wordsT (a :: ws)).length + 1)
  | [], a, f, i, l, r, hok, h, h3, hf => by
    obtain ⟨f, rfl⟩ : ∃ q, f = q + 1 := ⟨f - 1, by simp at hf; omega⟩
    have hl : a.data.toList.length = a.size := by rw [Array.length_toList]; rfl
    simp only [wordsT, List.all_cons, List.all_nil, Bool.and_true, hl] at h hok ⊢
    obtain ⟨e1, e2⟩ := nameE_at x a i _ hok h (by rintro c l e; injection e with e _; subst e; rfl)
    have h41 : byteAt x (i + a.size) = 41 := by rw [← hl, byteAt_head (drop_appF h)]; rfl
    have := (okName_sizeF hok).1
    unfold wordsG
    rw [e1, if_neg (by omega), if_pos h41, e2]
  | b :: ws, a, f, i, l, r, hok, h, h3, hf => by
    obtain ⟨f, rfl⟩ : ∃ q, f = q + 1 := ⟨f - 1, by simp at hf; omega⟩
    have hl : a.data.toList.length = a.size := by rw [Array.length_toList]; rfl
    simp only [wordsT, List.append_assoc, List.cons_append, List.length_append, List.length_cons, hl] at h ⊢
    have hok1 : okName a = true := by simp only [List.all_cons, Bool.and_eq_true] at hok; exact hok.1
    have hok2 : (b :: ws).all okName = true := by simp only [List.all_cons, Bool.and_eq_true] at hok ⊢; exact hok.2
    obtain ⟨e1, e2⟩ := nameE_at x a i _ hok1 h (by rintro c l e; injection e with e _; subst e; rfl)
    have hd := drop_appF h
    rw [hl] at hd
    obtain ⟨h44, _, h5⟩ := byte_drop hd
    have h44 : byteAt x (i + a.size) = 44 := h44
    have := (okName_sizeF hok1).1
    unfold wordsG
    simp only [List.length_cons] at h3 hf
    rw [e1, if_neg (by omega), if_neg (by omega), if_pos ⟨h44, by omega⟩, e2, wordsG_text x ws b f (i + a.size + 1) (l ++ [a]) r hok2 h5 (by simp; omega) (by simp; omega)]
    congr 1
    · simp
    · omega
theorem wordsF_text (x : ByteArray) (ws : List ByteArray) (i : Nat) (r : List UInt8) (hok : ws.all okName = true) (h : x.data.toList.drop i = wordsT ws ++ 41 :: r) (h3 : ws.length ≤ 3) : wordsF x i = .ok ws (i + (wordsT ws).length + 1) := by
  unfold wordsF
  cases ws with
  | nil =>
    rw [if_pos (by rw [byteAt_head h]; rfl)]
    simp [wordsT]
  | cons a ws =>
    have hok1 : okName a = true := by simp only [List.all_cons, Bool.and_eq_true] at hok; exact hok.1
    have hlow : 97 ≤ byteAt x i ∧ byteAt x i ≤ 122 := by
      cases ws with
      | nil => exact low_at hok1 h
      | cons b ws => exact low_at hok1 (by rw [h]; simp only [wordsT, List.append_assoc]; rfl)
    rw [if_neg (by omega), wordsG_text x ws a 3 i [] r hok h (by simpa using h3) h3]
    simp

/-- What may stand behind a formula. -/
def Beh (r : List UInt8) : Prop := r = [] ∨ ∃ l, r = 32 :: l ∨ r = 41 :: l
theorem Beh.head {r : List UInt8} (h : Beh r) : headB r = 0 ∨ headB r = 32 ∨ headB r = 41 := by
  rcases h with rfl | ⟨l, rfl | rfl⟩
  · exact Or.inl rfl
  · exact Or.inr (Or.inl rfl)
  · exact Or.inr (Or.inr rfl)
theorem Beh.name {r : List UInt8} (h : Beh r) : ∀ c l, r = c :: l → (isLow c || isOther c) = false := by
  rintro c l rfl
  rcases h with h | ⟨l, h | h⟩
  · cases h
  · injection h with h _; subst h; rfl
  · injection h with h _; subst h; rfl
theorem sp_name {l : List UInt8} : ∀ c l', 32 :: l = c :: l' → (isLow c || isOther c) = false := by
  rintro c l' e; injection e with e _; subst e; rfl
theorem par_name {l : List UInt8} : ∀ c l', 40 :: l = c :: l' → (isLow c || isOther c) = false := by
  rintro c l' e; injection e with e _; subst e; rfl
theorem wTrue_ok : okName wTrue = true := by decide +kernel
theorem wAll_ok : okName wAll = true := by decide +kernel
theorem wSome_ok : okName wSome = true := by decide +kernel
theorem nm_len (nm : ByteArray) : nm.data.toList.length = nm.size := by rw [Array.length_toList]; rfl
/-- A quantifier's word. -/
def quW (k : Nat) : ByteArray := if k = 8 then wAll else wSome
theorem quW_ok (k : Nat) : okName (quW k) = true := by unfold quW; split; exact wAll_ok; exact wSome_ok
theorem quW_list (k : Nat) : (quW k).data.toList = quB k := by unfold quW quB; split <;> rfl
theorem quW_key (k : Nat) : quW k = wAll ∨ quW k = wSome := by unfold quW; split <;> simp
theorem quW_true (k : Nat) : quW k ≠ wTrue := by unfold quW; split <;> decide +kernel
theorem quB_len (k : Nat) : (quB k).length = (quW k).size := by rw [← quW_list, nm_len]

/-- No equality where a formula stands ahead of a sign. -/
theorem sameF_text (x : ByteArray) (n i : Nat) (s : UInt8) (r : List UInt8) (hs : s.toNat ≠ 61) : ∀ (f : Fv), f.ok → x.data.toList.drop i = f.text ++ 32 :: s :: r → sameF x i n = none
  | .tru, _, h => by
    obtain ⟨e1, e2⟩ := nameE_at x wTrue i (32 :: s :: r) wTrue_ok h sp_name
    have hd := drop_appF (a := wTrue.data.toList) h
    rw [nm_len] at hd
    obtain ⟨h1, _, h2⟩ := byte_drop hd
    obtain ⟨h3, _, _⟩ := byte_drop h2
    unfold sameF
    rw [e1, e2, if_neg (by rintro (h | h); exact absurd h (by have := (okName_sizeF wTrue_ok).1; omega); exact h h1), if_neg (by rw [h3]; exact hs), if_pos (show isKey wTrue from Or.inl rfl)]
  | .pred nm ws, hok, h => by
    simp only [Fv.text, List.append_assoc, List.cons_append] at h
    obtain ⟨e1, e2⟩ := nameE_at x nm i _ hok.1 h par_name
    have hd := drop_appF h
    rw [nm_len] at hd
    have h1 : byteAt x (i + nm.size) = 40 := (byte_drop hd).1
    unfold sameF
    rw [e1, if_pos (Or.inr (by omega))]
  | .same a b, _, h => by
    have h1 : byteAt x i = 40 := (byte_drop (c := 40) h).1
    unfold sameF
    rw [if_pos (Or.inl (nameE_zero (by omega)))]
  | .neg f, _, h => by
    have h1 : byteAt x i = 45 := (byte_drop (c := 45) h).1
    unfold sameF
    rw [if_pos (Or.inl (nameE_zero (by omega)))]
  | .bin k f g, _, h => by
    have h1 : byteAt x i = 40 := (byte_drop (c := 40) h).1
    unfold sameF
    rw [if_pos (Or.inl (nameE_zero (by omega)))]
  | .qu k y f, hok, h => by
    simp only [Fv.text, List.append_assoc, List.cons_append] at h
    rw [← quW_list] at h
    obtain ⟨e1, e2⟩ := nameE_at x (quW k) i _ (quW_ok k) h sp_name
    have hd := drop_appF h
    rw [nm_len] at hd
    obtain ⟨h1, _, h2⟩ := byte_drop hd
    have h3 := low_at hok.2.1 h2
    unfold sameF
    rw [e1, e2, if_neg (by rintro (h | h); exact absurd h (by have := (okName_sizeF (quW_ok k)).1; omega); exact h h1), if_neg (by omega), if_pos (show isKey (quW k) from Or.inr (quW_key k))]

theorem signF_B {k : Nat} (hk : k = 5 ∨ k = 6 ∨ k = 7) : signF (signB k).toNat = k ∧ (signB k).toNat ≠ 61 := by
  rcases hk with rfl | rfl | rfl <;> exact ⟨rfl, by decide⟩

/-- The text of a formula is read as the formula. -/
theorem frd_text (x : ByteArray) : ∀ (v : Fv) (k i n : Nat) (r : List UInt8), v.ok → x.data.toList.drop i = v.text ++ r → Beh r → v.depth ≤ k → n + v.nodes ≤ 200 → frd x k i n = .ok v (i + v.text.length) (n + v.nodes)
  | .tru, k, i, n, r, hok, h, hr, hk, hn => by
    simp only [Fv.depth, Fv.nodes] at hk hn
    obtain ⟨k, rfl⟩ : ∃ q, k = q + 1 := ⟨k - 1, by omega⟩
    obtain ⟨e1, e2⟩ := nameE_at x wTrue i r wTrue_ok h hr.name
    have hlow := low_at (nm := wTrue) wTrue_ok h
    have hd := drop_appF (a := wTrue.data.toList) h
    rw [nm_len] at hd
    have hb := byteAt_head hd
    have hh := hr.head
    simp only [frd]
    rw [if_pos (Or.inr (Or.inr hlow)), if_neg (by omega), if_neg (by omega), if_neg (by omega)]
    simp only [atomF]
    rw [e1, if_neg (by omega), e2, if_pos rfl]
    simp only [Fv.nodes, Fv.text]
    rfl
  | .pred nm ws, k, i, n, r, hok, h, hr, hk, hn => by
    simp only [Fv.depth, Fv.nodes] at hk hn
    obtain ⟨k, rfl⟩ : ∃ q, k = q + 1 := ⟨k - 1, by omega⟩
    simp only [Fv.text, List.append_assoc, List.cons_append, List.nil_append] at h
    obtain ⟨e1, e2⟩ := nameE_at x nm i _ hok.1 h par_name
    have hlow := low_at hok.1 h
    have hd := drop_appF h
    rw [nm_len] at hd
    obtain ⟨h1, _, h2⟩ := byte_drop hd
    have h1 : byteAt x (i + nm.size) = 40 := h1
    have hw := wordsF_text x ws _ r hok.2.2 h2 hok.2.1
    simp only [frd]
    rw [if_pos (Or.inr (Or.inr hlow)), if_neg (by omega), if_neg (by omega), if_neg (by omega)]
    simp only [atomF]
    rw [e1, if_pos h1, e2, hw]
    simp only [Fv.nodes, Fv.text, List.length_append, List.length_cons, List.length_nil, nm_len]
    congr 1; omega
  | .same a b, k, i, n, r, hok, h, hr, hk, hn => by
    simp only [Fv.depth, Fv.nodes] at hk hn
    obtain ⟨k, rfl⟩ : ∃ q, k = q + 1 := ⟨k - 1, by omega⟩
    simp only [Fv.text, List.append_assoc, List.cons_append, List.nil_append] at h
    obtain ⟨h1, _, h2⟩ := byte_drop h
    have h1 : byteAt x i = 40 := h1
    obtain ⟨e1, e2⟩ := nameE_at x a (i + 1) _ hok.1 h2 sp_name
    have hd := drop_appF h2
    rw [nm_len] at hd
    obtain ⟨h3, _, h4⟩ := byte_drop hd
    obtain ⟨h5, _, h6⟩ := byte_drop h4
    obtain ⟨h7, _, h8⟩ := byte_drop h6
    have h3 : byteAt x (i + 1 + a.size) = 32 := h3
    have h5 : byteAt x (i + 1 + a.size + 1) = 61 := h5
    have h7 : byteAt x (i + 1 + a.size + 2) = 32 := h7
    obtain ⟨e3, e4⟩ := nameE_at x b (i + 1 + a.size + 3) _ hok.2 h8 (by rintro c l e; injection e with e _; subst e; rfl)
    have hd2 := drop_appF h8
    rw [nm_len] at hd2
    have h9 : byteAt x (i + 1 + a.size + 3 + b.size) = 41 := (byte_drop hd2).1
    have z1 := (okName_sizeF hok.1).1
    have z2 := (okName_sizeF hok.2).1
    simp only [frd]
    rw [if_pos (Or.inr (Or.inl h1)), if_neg (by omega), if_neg (by omega), if_pos h1]
    simp only [sameF]
    rw [e1, if_neg (by omega), if_pos h5, if_neg (by omega), e3, if_neg (by omega), e2, e4]
    simp only [Fv.nodes, Fv.text, List.length_append, List.length_cons, List.length_nil, nm_len]
    congr 1; omega
  | .neg f, k, i, n, r, hok, h, hr, hk, hn => by
    simp only [Fv.depth, Fv.nodes] at hk hn
    obtain ⟨k, rfl⟩ : ∃ q, k = q + 1 := ⟨k - 1, by omega⟩
    simp only [Fv.text, List.cons_append] at h
    obtain ⟨h1, _, h2⟩ := byte_drop h
    have h1 : byteAt x i = 45 := h1
    have ih := frd_text x f k (i + 1) (n + 1) r hok h2 hr (by omega) (by omega)
    simp only [frd]
    rw [if_pos (Or.inl h1), if_neg (by omega), if_pos h1, ih]
    simp only [Fv.nodes, Fv.text, List.length_cons]
    congr 1 <;> omega
  | .qu q y f, k, i, n, r, hok, h, hr, hk, hn => by
    simp only [Fv.depth, Fv.nodes] at hk hn
    obtain ⟨k, rfl⟩ : ∃ q, k = q + 1 := ⟨k - 1, by omega⟩
    simp only [Fv.text, List.append_assoc, List.cons_append] at h
    rw [← quW_list] at h
    obtain ⟨e1, e2⟩ := nameE_at x (quW q) i _ (quW_ok q) h sp_name
    have hlow := low_at (quW_ok q) h
    have hd := drop_appF h
    rw [nm_len] at hd
    obtain ⟨h1, _, h2⟩ := byte_drop hd
    have h1 : byteAt x (i + (quW q).size) = 32 := h1
    obtain ⟨e3, e4⟩ := nameE_at x y (i + (quW q).size + 1) _ hok.2.1 h2 sp_name
    have hd2 := drop_appF h2
    rw [nm_len] at hd2
    obtain ⟨h3, _, h4⟩ := byte_drop hd2
    have h3 : byteAt x (i + (quW q).size + 1 + y.size) = 32 := h3
    have z1 := (okName_sizeF hok.2.1).1
    have ih := frd_text x f k _ (n + 1) r hok.2.2 h4 hr (by omega) (by omega)
    have hK : quK x i = q := by
      unfold quK
      rw [e1, e2]
      rcases hok.1 with rfl | rfl
      · rw [if_pos (show quW 8 = wAll from rfl)]
      · rw [if_neg (show quW 9 ≠ wAll by decide +kernel)]
    have hX : quX x i = y := by unfold quX; rw [e1, e3, e4]
    have hI : quI x i = i + (quW q).size + 1 + y.size + 1 := by unfold quI; rw [e1, e3]
    simp only [frd]
    rw [if_pos (Or.inr (Or.inr hlow)), if_neg (by omega), if_neg (by omega), if_neg (by omega)]
    have hat : atomF x i (n + 1) = none := by
      simp only [atomF]
      rw [e1, if_neg (by omega), e2, if_neg (quW_true q), if_pos (quW_key q), if_neg (by omega), e3, if_neg (by omega)]
    rw [hat, hI, hK, hX, ih]
    simp only [Fv.nodes, Fv.text, List.length_append, List.length_cons, nm_len, quB_len]
    congr 1 <;> omega
  | .bin q f g, k, i, n, r, hok, h, hr, hk, hn => by
    simp only [Fv.depth, Fv.nodes] at hk hn
    obtain ⟨k, rfl⟩ : ∃ q, k = q + 1 := ⟨k - 1, by omega⟩
    simp only [Fv.text, List.append_assoc, List.cons_append, List.nil_append] at h
    obtain ⟨h1, _, h2⟩ := byte_drop h
    have h1 : byteAt x i = 40 := h1
    obtain ⟨s1, s2⟩ := signF_B hok.1
    have hsame := sameF_text x (n + 1) (i + 1) _ _ s2 f hok.2.1 h2
    have ihf := frd_text x f k (i + 1) (n + 1) _ hok.2.1 h2 (Or.inr ⟨_, Or.inl rfl⟩) (by omega) (by omega)
    obtain ⟨h3, _, h4⟩ := byte_drop (drop_appF h2)
    obtain ⟨h5, _, h6⟩ := byte_drop h4
    obtain ⟨h7, _, h8⟩ := byte_drop h6
    have h3 : byteAt x (i + 1 + f.text.length) = 32 := h3
    have h7 : byteAt x (i + 1 + f.text.length + 2) = 32 := h7
    have ihg := frd_text x g k (i + 1 + f.text.length + 3) (n + 1 + f.nodes) _ hok.2.2 h8 (Or.inr ⟨_, Or.inr rfl⟩) (by omega) (by omega)
    have h9 : byteAt x (i + 1 + f.text.length + 3 + g.text.length) = 41 := (byte_drop (drop_appF h8)).1
    simp only [frd]
    rw [if_pos (Or.inr (Or.inl h1)), if_neg (by omega), if_neg (by omega), if_pos h1, hsame, ihf]
    simp only
    rw [if_neg (by omega), h5, s1, if_neg (by rcases hok.1 with rfl | rfl | rfl <;> decide), if_neg (by omega), ihg]
    simp only
    rw [if_pos h9]
    simp only [Fv.nodes, Fv.text, List.length_append, List.length_cons, List.length_nil]
    congr 1 <;> omega

/-- A valid formula's text, read from the start. -/
theorem fp_text {v : Fv} (hok : v.ok) (h1 : v.nodes ≤ 200) (h2 : v.depth ≤ 40) (h3 : v.text.length ≤ 4000) : fpC ⟨v.text.toArray⟩ = (0, 0) ∧ fpF ⟨v.text.toArray⟩ = v.fm := by
  have hs : (⟨v.text.toArray⟩ : ByteArray).size = v.text.length := by simp [ByteArray.size]
  have h := frd_text ⟨v.text.toArray⟩ v 40 0 0 [] hok (by simp) (Or.inl rfl) h2 (by omega)
  have hr : runF ⟨v.text.toArray⟩ [] 0 0 = .ok v v.text.length := by
    unfold runF
    simp only [List.length_nil, Nat.sub_zero]
    rw [h]
    simp [foldF]
  unfold fpC fpF
  rw [if_neg (by omega), if_neg (by omega), hr]
  simp only
  rw [if_neg (by omega), if_neg (by omega)]
  exact ⟨rfl, rfl⟩

/-- The text of a formula with few nodes is not too long. -/
theorem wordsT_len : ∀ ws : List ByteArray, ws.all okName = true → (wordsT ws).length ≤ 31 * ws.length
  | [], _ => by simp [wordsT]
  | [a], h => by
    simp only [List.all_cons, List.all_nil, Bool.and_true] at h
    have := (okName_sizeF h).2
    simp only [wordsT, nm_len, List.length_cons, List.length_nil]; omega
  | a :: b :: l, h => by
    have h' := h
    simp only [List.all_cons, Bool.and_eq_true] at h
    have h1 := (okName_sizeF h.1).2
    have ih := wordsT_len (b :: l) (by simp only [List.all_cons, Bool.and_eq_true]; exact h.2)
    simp only [wordsT, List.length_append, List.length_cons, nm_len] at ih ⊢; omega
theorem Fv.text_len : ∀ v : Fv, v.ok → v.text.length ≤ 130 * v.nodes
  | .tru, _ => by simp [Fv.text, Fv.nodes]
  | .pred n ws, h => by
    have h1 := (okName_sizeF h.1).2
    have h2 := wordsT_len ws h.2.2
    have h3 := h.2.1
    simp only [Fv.text, Fv.nodes, List.length_append, List.length_cons, List.length_nil, nm_len]; omega
  | .same a b, h => by
    have h1 := (okName_sizeF h.1).2
    have h2 := (okName_sizeF h.2).2
    simp only [Fv.text, Fv.nodes, List.length_append, List.length_cons, List.length_nil, nm_len]; omega
  | .neg f, h => by
    have := Fv.text_len f h
    simp only [Fv.text, Fv.nodes, List.length_cons]; omega
  | .bin k f g, h => by
    have h1 := Fv.text_len f h.2.1
    have h2 := Fv.text_len g h.2.2
    simp only [Fv.text, Fv.nodes, List.length_append, List.length_cons, List.length_nil]; omega
  | .qu k x f, h => by
    have h1 := Fv.text_len f h.2.2
    have h2 := (okName_sizeF h.2.1).2
    have h3 : (quB k).length ≤ 4 := by unfold quB; split <;> simp
    simp only [Fv.text, Fv.nodes, List.length_append, List.length_cons, nm_len]; omega

end Go.Proofs.YtflcbbikfdahhaaDoor
