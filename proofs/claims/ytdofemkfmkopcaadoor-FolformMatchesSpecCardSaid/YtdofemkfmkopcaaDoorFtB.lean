/-
  The reference's FormText: joined.
-/
import Derived.Test.YtdofemkfmkopcaaDoorFtA
namespace Go.Proofs.YtdofemkfmkopcaaDoor
open Go Go.RowKit
set_option linter.unusedSimpArgs false
set_option linter.unusedVariables false

def joinS (sep : Bs) : List ByteArray → Bs
  | [] => []
  | [a] => dat a
  | a :: b :: l => dat a ++ (sep ++ joinS sep (b :: l))
theorem joinS_snoc (sep : Bs) (x : ByteArray) : ∀ l : List ByteArray, l ≠ [] → joinS sep (l ++ [x]) = joinS sep l ++ (sep ++ dat x)
  | [], h => absurd rfl h
  | [a], _ => by simp [joinS]
  | a :: b :: l, _ => by
    have ih := joinS_snoc sep x (b :: l) (by simp)
    simp only [List.cons_append] at ih ⊢
    simp only [joinS] at ih ⊢
    rw [ih]
    simp
theorem wordsT_joinS : ∀ l : List ByteArray, wordsT l = joinS [44] l
  | [] => rfl
  | [a] => rfl
  | a :: b :: l => by
    have ih := wordsT_joinS (b :: l)
    simp only [wordsT, joinS] at ih ⊢
    rw [ih]; rfl
theorem dat_append (a b : ByteArray) : dat (a ++ b) = dat a ++ dat b := by simp [dat, ByteArray.data_append]
theorem dat_size (a : ByteArray) : a.size = (dat a).length := by unfold dat; rw [Array.length_toList]; rfl
theorem joinS_len (sep : Bs) (hs : sep.length ≤ 3) : ∀ l : List ByteArray, (∀ x ∈ l, x.size ≤ 1000) → (joinS sep l).length ≤ l.length * 1003
  | [], _ => by simp [joinS]
  | [a], h => by have h9 := h a (List.mem_cons_self ..); rw [dat_size] at h9; show (dat a).length ≤ 1 * 1003; omega
  | a :: b :: l, h => by
    have ih := joinS_len sep hs (b :: l) (fun x hx => h x (List.mem_cons_of_mem _ hx))
    have := h a (by simp)
    rw [dat_size] at this
    simp only [joinS, List.length_append, List.length_cons] at ih ⊢
    omega
theorem okName_le {s : ByteArray} (h : okName s = true) : s.size ≤ 30 := (okName_sizeF h).2
noncomputable def c_ft_wl : Code := sub [1, 0, 1, 0, 1, 1, 1, 0, 1, 0, 1, 0] (Tryd.f16.body.getD .skip)
set_option maxRecDepth 100000 in
set_option maxHeartbeats 4000000 in
theorem ft_wl_wp {Q : Exit → Act → World → Prop} {S : Nat → Prop} {ws : List ByteArray} {wo w : World} {kd : Int} {nm : ByteArray} {A B : Option Addr} {n1 c1 n2 c2 : Nat} (hk : kd = 2 ∨ kd = 3) (hS : ∀ k, S k → k < wo.heap.size) (hw : strRep.Sl wo S (.slice A n1 c1) ws) (hws : ∀ x ∈ ws, x.size ≤ 1000) (hwl : ws.length ≤ 50) (hs : TX wo w kd nm A n1 c1 B n2 c2) 
    (hX : ∀ s a', dat s = joinS (if kd = 2 then [44] else [32, 61, 32]) ws → Frm 108 [(1, .pointer (some ⟨wo.heap.size, 0, none⟩)), (8, .int .i64 kd), (3, .string s)] a' → Q (.exit 1) a' w) : ∀ ac, Frm 108 [(1, .pointer (some ⟨wo.heap.size, 0, none⟩)), (8, .int .i64 kd), (3, .string (⟨#[]⟩ : ByteArray)), (15, .slice A n1 c1), (16, .int .i64 (n1 : Nat)), (17, .int .i64 (0 : Nat))] ac → Code.wp Tryd.prog c_ft_wl Q ac w := by
  intro a0 hf0
  conv => arg 2; whnf
  obtain ⟨A', n', c', e9, hlen, hmax, _⟩ := id hw
  injection e9 with e1 e2 e3
  subst e1 e2 e3
  refine wp_loopR (fun g a' w' => ∃ (j : Nat) (s : ByteArray), j + g = ws.length ∧ dat s = joinS (if kd = 2 then [44] else [32, 61, 32]) (ws.take j) ∧ w' = w ∧ Frm 108 [(1, .pointer (some ⟨wo.heap.size, 0, none⟩)), (8, .int .i64 kd), (3, .string s), (15, .slice A n1 c1), (16, .int .i64 (n1 : Nat)), (17, .int .i64 (j : Nat))] a') ws.length ⟨0, _, by omega, rfl, rfl, hf0⟩ ?_
  rintro g a1 w1 ⟨j, s, hjg, hs9, rfl, h1⟩
  refine wp_seq ?_
  refine ft_r8_wp (fun a2 h2 => ?_) a1 h1
  refine wp_seq ?_
  by_cases hj : j < n1
  case neg =>
    refine wp_cond_false ((h2.eval (k := 18) (v := .bool (decide (j < n1))) (by simp)).trans (by rw [decide_eq_false hj])) ?_
    refine wp_exit (hX s a2 ?_ ⟨h2.1, h2.2.1, h2.2.2.1, h2.2.2.2.1, h2.2.2.2.2.1, trivial⟩)
    rwa [List.take_of_length_le (by omega)] at hs9
  refine wp_cond_true ((h2.eval (k := 18) (v := .bool (decide (j < n1))) (by simp)).trans (by rw [decide_eq_true hj])) ?_
  refine wp_skip ?_
  show Code.wp _ _ _ a2 w1
  have hold := fun k hk => hs.b.block k (hS k hk)
  have hbs := hs.b.size
  have hjl : j < ws.length := by omega
  obtain ⟨b, o, cs, rfl, hSb, ⟨rfl, hsz⟩, hc⟩ := Rep.Sl.at_ hw (List.getElem?_eq_getElem hjl)
  have hc0 : w1.cell? ⟨b, o + j, none⟩ = some (.string ws[j]) := (cell_keep (hold b hSb) _).trans (by simpa [strRep] using hc 0 _ rfl)
  have htk : ws.take (j + 1) = ws.take j ++ [ws[j]] := List.take_succ_eq_append_getElem hjl
  have hx := hws ws[j] (List.getElem_mem hjl)
  have hsl : s.size ≤ 99000 := by
    rw [dat_size, hs9]
    have := joinS_len (if kd = 2 then [44] else [32, 61, 32]) (by split <;> simp) (ws.take j) (fun x hx => hws x (List.mem_of_mem_take hx))
    rw [List.length_take] at this
    have h50 : min j ws.length ≤ 50 := by omega
    have := Nat.mul_le_mul_right 1003 h50
    omega
  refine wp_seq ?_
  refine wp_block ?_
  refine wp_seq ?_
  refine ft_r9_wp hj hc0 (by have := hS b hSb; omega) (fun a3 h3 => ?_) a2 ⟨h2.1, h2.2.1, h2.2.2.1, h2.2.2.2.1, h2.2.2.2.2.1, h2.2.2.2.2.2.1, h2.2.2.2.2.2.2.1, h2.2.2.2.2.2.2.2.1, trivial⟩
  have done : ∀ (a5 : Act) (s' : ByteArray), dat s' = joinS (if kd = 2 then [44] else [32, 61, 32]) (ws.take (j + 1)) → Frm 108 [(1, .pointer (some ⟨wo.heap.size, 0, none⟩)), (8, .int .i64 kd), (3, .string s'), (15, .slice (some ⟨b, o, none⟩) n1 c1), (16, .int .i64 (n1 : Nat)), (17, .int .i64 (j : Nat))] a5 → Code.wp Tryd.prog (sub [1, 0, 1, 0, 1, 1, 1, 0, 1, 0, 1, 0, 0, 1, 1, 1] (Tryd.f16.body.getD .skip)) (Exit.then (fun a' w' => ∃ m, m < g ∧ ∃ (j : Nat) (s : ByteArray), j + m = ws.length ∧ dat s = joinS (if kd = 2 then [44] else [32, 61, 32]) (ws.take j) ∧ w' = w1 ∧ Frm 108 [(1, .pointer (some ⟨wo.heap.size, 0, none⟩)), (8, .int .i64 kd), (3, .string s), (15, .slice (some ⟨b, o, none⟩) n1 c1), (16, .int .i64 (n1 : Nat)), (17, .int .i64 (j : Nat))] a') Q) a5 w1 := by
    intro a5 s' e5 h5
    exact ft_r15_wp hj (by omega) (fun a6 h6 => ⟨g - 1, by omega, j + 1, s', by omega, e5, rfl, h6⟩) a5 h5
  refine wp_seq ?_
  refine wp_seq ?_
  refine ft_r10_wp hs (fun a4 h4 => ?_) a3 h3
  by_cases h0 : j = 0
  · subst h0
    have e0 : dat s ++ dat ws[0] = joinS (if kd = 2 then [44] else [32, 61, 32]) (ws.take (0 + 1)) := by
      rw [hs9, htk]; simp [joinS]
    refine wp_cond_false ((h4.eval (k := 28) (v := .bool (decide (0 < 0) && decide (kd = 2))) (by simp)).trans (by rw [show (decide (0 < 0) && decide (kd = 2)) = false from rfl])) ?_
    refine wp_skip ?_
    show Code.wp _ _ _ a4 w1
    refine wp_seq ?_
    refine wp_seq ?_
    refine ft_r12_wp hs (fun a5 h5 => ?_) a4 ⟨h4.1, h4.2.1, h4.2.2.1, h4.2.2.2.1, h4.2.2.2.2.1, h4.2.2.2.2.2.1, h4.2.2.2.2.2.2.1, h4.2.2.2.2.2.2.2.1, h4.2.2.2.2.2.2.2.2.1, h4.2.2.2.2.2.2.2.2.2.1, trivial⟩
    refine wp_cond_false ((h5.eval (k := 37) (v := .bool (decide (0 < 0) && decide (kd = 3))) (by simp)).trans (by rw [show (decide (0 < 0) && decide (kd = 3)) = false from rfl])) ?_
    refine wp_skip ?_
    show Code.wp _ _ _ a5 w1
    refine ft_r14_wp (by omega) (by omega) (fun a6 h6 => ?_) a5 ⟨h5.1, h5.2.1, h5.2.2.1, h5.2.2.2.1, h5.2.2.2.2.1, h5.2.2.2.2.2.1, h5.2.2.2.2.2.2.1, h5.2.2.2.2.2.2.2.1, h5.2.2.2.2.2.2.2.2.1, h5.2.2.2.2.2.2.2.2.2.1, trivial⟩
    exact done a6 _ (by rw [dat_append, e0]) h6
  · have hne : ws.take j ≠ [] := by
      intro e
      have := congrArg List.length e
      rw [List.length_take, List.length_nil] at this
      omega
    have hjp : decide (0 < j) = true := decide_eq_true (by omega)
    rcases hk with rfl | rfl
    · refine wp_cond_true ((h4.eval (k := 28) (v := .bool (decide (0 < j) && decide ((2 : Int) = 2))) (by simp)).trans (by rw [show (decide (0 < j) && decide ((2 : Int) = 2)) = true from by rw [hjp]; rfl])) ?_
      refine ft_r11_wp (by omega) (by omega) (fun a5 h5 => ?_) a4 ⟨h4.1, h4.2.1, h4.2.2.1, h4.2.2.2.1, h4.2.2.2.2.1, h4.2.2.2.2.2.1, h4.2.2.2.2.2.2.1, h4.2.2.2.2.2.2.2.1, h4.2.2.2.2.2.2.2.2.1, h4.2.2.2.2.2.2.2.2.2.1, trivial⟩
      show Code.wp _ _ _ a5 w1
      refine wp_seq ?_
      refine wp_seq ?_
      refine ft_r12_wp hs (fun a6 h6 => ?_) a5 h5
      refine wp_cond_false ((h6.eval (k := 37) (v := .bool (decide (0 < j) && decide ((2 : Int) = 3))) (by simp)).trans (by rw [show (decide (0 < j) && decide ((2 : Int) = 3)) = false from by rw [hjp]; rfl])) ?_
      refine wp_skip ?_
      show Code.wp _ _ _ a6 w1
      refine ft_r14_wp (by rw [ByteArray.size_append]; have : (⟨#[44]⟩ : ByteArray).size = 1 := rfl; omega) (by omega) (fun a7 h7 => ?_) a6 ⟨h6.1, h6.2.1, h6.2.2.1, h6.2.2.2.1, h6.2.2.2.2.1, h6.2.2.2.2.2.1, h6.2.2.2.2.2.2.1, h6.2.2.2.2.2.2.2.1, h6.2.2.2.2.2.2.2.2.1, h6.2.2.2.2.2.2.2.2.2.1, trivial⟩
      refine done a7 _ ?_ h7
      rw [dat_append, dat_append, hs9, htk, joinS_snoc _ _ _ hne, List.append_assoc]
      rfl
    · refine wp_cond_false ((h4.eval (k := 28) (v := .bool (decide (0 < j) && decide ((3 : Int) = 2))) (by simp)).trans (by rw [show (decide (0 < j) && decide ((3 : Int) = 2)) = false from by rw [hjp]; rfl])) ?_
      refine wp_skip ?_
      show Code.wp _ _ _ a4 w1
      refine wp_seq ?_
      refine wp_seq ?_
      refine ft_r12_wp hs (fun a5 h5 => ?_) a4 ⟨h4.1, h4.2.1, h4.2.2.1, h4.2.2.2.1, h4.2.2.2.2.1, h4.2.2.2.2.2.1, h4.2.2.2.2.2.2.1, h4.2.2.2.2.2.2.2.1, h4.2.2.2.2.2.2.2.2.1, h4.2.2.2.2.2.2.2.2.2.1, trivial⟩
      refine wp_cond_true ((h5.eval (k := 37) (v := .bool (decide (0 < j) && decide ((3 : Int) = 3))) (by simp)).trans (by rw [show (decide (0 < j) && decide ((3 : Int) = 3)) = true from by rw [hjp]; rfl])) ?_
      refine ft_r13_wp (by omega) (by omega) (fun a6 h6 => ?_) a5 ⟨h5.1, h5.2.1, h5.2.2.1, h5.2.2.2.1, h5.2.2.2.2.1, h5.2.2.2.2.2.1, h5.2.2.2.2.2.2.1, h5.2.2.2.2.2.2.2.1, h5.2.2.2.2.2.2.2.2.1, h5.2.2.2.2.2.2.2.2.2.1, trivial⟩
      show Code.wp _ _ _ a6 w1
      refine ft_r14_wp (by rw [ByteArray.size_append]; have : (⟨#[32, 61, 32]⟩ : ByteArray).size = 3 := rfl; omega) (by omega) (fun a7 h7 => ?_) a6 h6
      refine done a7 _ ?_ h7
      rw [dat_append, dat_append, hs9, htk, joinS_snoc _ _ _ hne, List.append_assoc]
      rfl
set_option maxRecDepth 100000 in
set_option maxHeartbeats 4000000 in
/-- The reference's FormText, on valid formulas. -/
theorem refText_any : ∀ v : Fv, v.ok → ∀ (cs : List Value) (w : World) (S : Nat → Prop), fmRep.R w S v.fm cs → (∀ b, S b → b < w.heap.size) → v.nodes ≤ 500 → Calls Tryd.prog 16 #[.agg cs.toArray] w (fun e w' => e = .returned (.string ⟨v.text.toArray⟩) ∧ Below w.heap.size w w') := by
  intro v
  induction v with
  | tru =>
    intro hok cs w S ht hS hnd
    obtain ⟨u, v9, rfl, hnm0, hw, hl⟩ := Fm.open_ (a := ⟨1, ⟨#[]⟩, []⟩) (l := []) ht
    obtain ⟨A, n1, c1, rfl, e1, hm1, _⟩ := id hw
    obtain ⟨B, n2, c2, rfl, e2, hm2, _⟩ := id hl
    have hbl := Nat.le_refl w.heap.size
    go_enter Tryd.func16, Tryd.ntmps16
    refine wp_seq ?_
    refine ft_r0_wp (fun a0 h0 => ?_) _ (id ⟨rfl, rfl, rfl, trivial⟩)
    refine gen_last (fun wx => TX w wx 1 ⟨#[]⟩ A n1 c1 B n2 c2) ⟨heap_at (by simp), (Below.refl _ _).alloc (Nat.le_refl _) _⟩ ?_
    intro w0 hs
    have hold := fun k hk => hs.b.block k (hS k hk)
    have hbs := hs.b.size
    refine wp_seq ?_
    refine wp_seq ?_
    refine ft_r1_wp hs (fun a1 h1 => ?_) a0 h0
    refine wp_block ?_
    refine wp_seq ?_
    refine ft_r2_wp (fun a2 h2 => ?_) a1 h1
    refine wp_cond_true ((h2.eval (k := 9) (v := .bool (decide ((1 : Int) = 1))) (by simp)).trans (by rw [show (decide ((1 : Int) = 1)) = true from by decide])) ?_
    refine wp_seq ?_
    refine ft_r3_wp (fun a9 h9 => ?_) a2 ⟨h2.1, h2.2.1, h2.2.2.1, h2.2.2.2.1, trivial⟩
    refine wp_ret ?_
    repeat (first | refine then_ret ?_ | refine inBlock_ret ?_)
    refine ft_ret_wp ⟨?_, hs.b⟩ a9 h9
    rfl
  | pred nm ws =>
    intro hok cs w S ht hS hnd
    obtain ⟨u, v9, rfl, hnm0, hw, hl⟩ := Fm.open_ (a := ⟨2, nm, ws⟩) (l := []) ht
    obtain ⟨A, n1, c1, rfl, e1, hm1, _⟩ := id hw
    obtain ⟨B, n2, c2, rfl, e2, hm2, _⟩ := id hl
    obtain ⟨ok1, ok2, ok3⟩ := hok
    have hws : ∀ x ∈ ws, x.size ≤ 1000 := fun x hx => by have := okName_le (List.all_eq_true.1 ok3 x hx); omega
    have hwl : ws.length ≤ 50 := by omega
    have hnz : nm.size ≤ 100000 := by have := okName_le ok1; omega
    have hbl := Nat.le_refl w.heap.size
    go_enter Tryd.func16, Tryd.ntmps16
    refine wp_seq ?_
    refine ft_r0_wp (fun a0 h0 => ?_) _ (id ⟨rfl, rfl, rfl, trivial⟩)
    refine gen_last (fun wx => TX w wx 2 nm A n1 c1 B n2 c2) ⟨heap_at (by simp), (Below.refl _ _).alloc (Nat.le_refl _) _⟩ ?_
    intro w0 hs
    have hold := fun k hk => hs.b.block k (hS k hk)
    have hbs := hs.b.size
    refine wp_seq ?_
    refine wp_seq ?_
    refine ft_r1_wp hs (fun a1 h1 => ?_) a0 h0
    refine wp_block ?_
    refine wp_seq ?_
    refine ft_r2_wp (fun a2 h2 => ?_) a1 h1
    refine wp_cond_false ((h2.eval (k := 9) (v := .bool (decide ((2 : Int) = 1))) (by simp)).trans (by rw [show (decide ((2 : Int) = 1)) = false from by decide])) ?_
    refine wp_seq ?_
    refine wp_seq ?_
    refine ft_r4_wp (fun b4 g4 => ?_) a2 ⟨h2.1, h2.2.1, h2.2.2.1, h2.2.2.2.1, trivial⟩
    refine wp_cond_true ((g4.eval (k := 11) (v := .bool (decide ((2 : Int) = 2))) (by simp)).trans (by rw [show (decide ((2 : Int) = 2)) = true from by decide])) ?_
    refine wp_skip ?_
    show Code.wp _ _ _ b4 w0
    refine wp_cond_true ((g4.eval (k := 11) (v := .bool (decide ((2 : Int) = 2))) (by simp)).trans (by rw [show (decide ((2 : Int) = 2)) = true from by decide])) ?_
    refine wp_seq ?_
    refine ft_r6_wp (fun c1' k1 => ?_) b4 ⟨g4.1, g4.2.1, g4.2.2.1, g4.2.2.2.1, trivial⟩
    refine wp_seq ?_
    refine wp_seq ?_
    refine ft_r7_wp hs (fun c2' k2 => ?_) c1' k1
    refine wp_block ?_
    refine ft_wl_wp (Or.inl rfl) hS hw hws hwl hs (fun s c3 es k3 => ?_) c2' k2
    refine inBlock_exit ?_
    show Code.wp _ _ _ c3 w0
    rw [if_pos rfl] at es
    have hsz : s.size ≤ 100000 := by
      rw [dat_size, es]
      have h9 := joinS_len [44] (by simp) _ hws
      exact Nat.le_trans h9 (Nat.le_trans (Nat.mul_le_mul_right 1003 hwl) (by omega))
    refine wp_seq ?_
    refine ft_r16_wp hsz hnz hs (fun c4 k4 => ?_) c3 k3
    refine wp_ret ?_
    repeat (first | refine then_ret ?_ | refine inBlock_ret ?_)
    refine ft_ret_wp ⟨?_, hs.b⟩ c4 k4
    refine congrArg (fun x => Ending.returned (Value.string x)) (dat_inj ?_)
    simp only [dat_append, es]
    simp [Fv.text, wordsT_joinS, dat]
  | same x y =>
    intro hok cs w S ht hS hnd
    obtain ⟨u, v9, rfl, hnm0, hw, hl⟩ := Fm.open_ (a := ⟨3, ⟨#[]⟩, [x, y]⟩) (l := []) ht
    obtain ⟨A, n1, c1, rfl, e1, hm1, _⟩ := id hw
    obtain ⟨B, n2, c2, rfl, e2, hm2, _⟩ := id hl
    obtain ⟨ok1, ok2⟩ := hok
    have hws : ∀ z ∈ [x, y], z.size ≤ 1000 := fun z hz => by
      simp at hz
      rcases hz with rfl | rfl
      · have := okName_le ok1; omega
      · have := okName_le ok2; omega
    have hwl : [x, y].length ≤ 50 := by simp
    have hnz : (⟨#[]⟩ : ByteArray).size ≤ 100000 := Nat.zero_le _
    have hbl := Nat.le_refl w.heap.size
    go_enter Tryd.func16, Tryd.ntmps16
    refine wp_seq ?_
    refine ft_r0_wp (fun a0 h0 => ?_) _ (id ⟨rfl, rfl, rfl, trivial⟩)
    refine gen_last (fun wx => TX w wx 3 ⟨#[]⟩ A n1 c1 B n2 c2) ⟨heap_at (by simp), (Below.refl _ _).alloc (Nat.le_refl _) _⟩ ?_
    intro w0 hs
    have hold := fun k hk => hs.b.block k (hS k hk)
    have hbs := hs.b.size
    refine wp_seq ?_
    refine wp_seq ?_
    refine ft_r1_wp hs (fun a1 h1 => ?_) a0 h0
    refine wp_block ?_
    refine wp_seq ?_
    refine ft_r2_wp (fun a2 h2 => ?_) a1 h1
    refine wp_cond_false ((h2.eval (k := 9) (v := .bool (decide ((3 : Int) = 1))) (by simp)).trans (by rw [show (decide ((3 : Int) = 1)) = false from by decide])) ?_
    refine wp_seq ?_
    refine wp_seq ?_
    refine ft_r4_wp (fun b4 g4 => ?_) a2 ⟨h2.1, h2.2.1, h2.2.2.1, h2.2.2.2.1, trivial⟩
    refine wp_cond_false ((g4.eval (k := 11) (v := .bool (decide ((3 : Int) = 2))) (by simp)).trans (by rw [show (decide ((3 : Int) = 2)) = false from by decide])) ?_
    refine ft_r5_wp (fun b5 g5 => ?_) b4 ⟨g4.1, g4.2.1, g4.2.2.1, g4.2.2.2.1, trivial⟩
    show Code.wp _ _ _ b5 w0
    refine wp_cond_true ((g5.eval (k := 11) (v := .bool (decide ((3 : Int) = 3))) (by simp)).trans (by rw [show (decide ((3 : Int) = 3)) = true from by decide])) ?_
    refine wp_seq ?_
    refine ft_r6_wp (fun c1' k1 => ?_) b5 ⟨g5.1, g5.2.1, g5.2.2.1, g5.2.2.2.1, trivial⟩
    refine wp_seq ?_
    refine wp_seq ?_
    refine ft_r7_wp hs (fun c2' k2 => ?_) c1' k1
    refine wp_block ?_
    refine ft_wl_wp (Or.inr rfl) hS hw hws hwl hs (fun s c3 es k3 => ?_) c2' k2
    refine inBlock_exit ?_
    show Code.wp _ _ _ c3 w0
    rw [if_neg (by decide)] at es
    have hsz : s.size ≤ 100000 := by
      rw [dat_size, es]
      have h9 := joinS_len [32, 61, 32] (by simp) _ hws
      exact Nat.le_trans h9 (Nat.le_trans (Nat.mul_le_mul_right 1003 hwl) (by omega))
    refine wp_seq ?_
    refine ft_r16_wp hsz hnz hs (fun c4 k4 => ?_) c3 k3
    refine wp_ret ?_
    repeat (first | refine then_ret ?_ | refine inBlock_ret ?_)
    refine ft_ret_wp ⟨?_, hs.b⟩ c4 k4
    refine congrArg (fun x => Ending.returned (Value.string x)) (dat_inj ?_)
    simp only [dat_append, es]
    simp [Fv.text, joinS, dat]
  | neg f ih =>
    intro hok cs w S ht hS hnd
    obtain ⟨u, v9, rfl, hnm0, hw, hl⟩ := Fm.open_ (a := ⟨4, ⟨#[]⟩, []⟩) (l := [f.fm]) ht
    obtain ⟨A, n1, c1, rfl, e1, hm1, _⟩ := id hw
    obtain ⟨B, n2, c2, rfl, e2, hm2, _⟩ := id hl
    have hbl := Nat.le_refl w.heap.size
    go_enter Tryd.func16, Tryd.ntmps16
    refine wp_seq ?_
    refine ft_r0_wp (fun a0 h0 => ?_) _ (id ⟨rfl, rfl, rfl, trivial⟩)
    refine gen_last (fun wx => TX w wx 4 ⟨#[]⟩ A n1 c1 B n2 c2) ⟨heap_at (by simp), (Below.refl _ _).alloc (Nat.le_refl _) _⟩ ?_
    intro w0 hs
    have hold := fun k hk => hs.b.block k (hS k hk)
    have hbs := hs.b.size
    refine wp_seq ?_
    refine wp_seq ?_
    refine ft_r1_wp hs (fun a1 h1 => ?_) a0 h0
    refine wp_block ?_
    obtain ⟨b, o, kc, eq, hSb, hr, hc⟩ := Rep.Sl.at_ hl (k := 0) (a := f.fm) rfl
    obtain ⟨Ae, n3, c3, Be, n4, c4, rfl, _, _, _, _⟩ := Fm.shape hr
    subst eq
    have e0 : w0.cell? ⟨b, o, none⟩ = _ := (cell_keep (hold b hSb) _).trans (by have := hc 0 _ rfl; exact this)
    have e1' : w0.cell? ⟨b, o + 1, none⟩ = _ := (cell_keep (hold b hSb) _).trans (by have := hc 1 _ rfl; exact this)
    have e2' : w0.cell? ⟨b, o + 2, none⟩ = _ := (cell_keep (hold b hSb) _).trans (by have := hc 2 _ rfl; exact this)
    have e3 : w0.cell? ⟨b, o + 3, none⟩ = _ := (cell_keep (hold b hSb) _).trans (by have := hc 3 _ rfl; exact this)
    refine wp_seq ?_
    refine ft_r2_wp (fun a2 h2 => ?_) a1 h1
    refine wp_cond_false ((h2.eval (k := 9) (v := .bool (decide ((4 : Int) = 1))) (by simp)).trans (by rw [show (decide ((4 : Int) = 1)) = false from by decide])) ?_
    refine wp_seq ?_
    refine wp_seq ?_
    refine ft_r4_wp (fun b4 g4 => ?_) a2 ⟨h2.1, h2.2.1, h2.2.2.1, h2.2.2.2.1, trivial⟩
    refine wp_cond_false ((g4.eval (k := 11) (v := .bool (decide ((4 : Int) = 2))) (by simp)).trans (by rw [show (decide ((4 : Int) = 2)) = false from by decide])) ?_
    refine ft_r5_wp (fun b5 g5 => ?_) b4 ⟨g4.1, g4.2.1, g4.2.2.1, g4.2.2.2.1, trivial⟩
    show Code.wp _ _ _ b5 w0
    refine wp_cond_false ((g5.eval (k := 11) (v := .bool (decide ((4 : Int) = 3))) (by simp)).trans (by rw [show (decide ((4 : Int) = 3)) = false from by decide])) ?_
    refine wp_seq ?_
    refine ft_r17_wp (fun b6 g6 => ?_) b5 ⟨g5.1, g5.2.1, g5.2.2.1, g5.2.2.2.1, trivial⟩
    refine wp_cond_true ((g6.eval (k := 50) (v := .bool (decide ((4 : Int) = 4))) (by simp)).trans (by rw [show (decide ((4 : Int) = 4)) = true from by decide])) ?_
    refine wp_seq ?_
    refine ft_r18_wp (by have := Fv.text_len f hok; simp only [Fv.nodes] at hnd; simp [ByteArray.size]; omega) (by rw [← e2]; simp) e0 e1' e2' e3 (by have := hS b hSb; omega) (fun W hb => ((ih hok _ W S (fmRep.keep hr (fun k hk => (hb.block k (by have := hS k hk; omega)).trans (hold k hk)) (fun _ h => h)) (fun k hk => by have := hS k hk; have := hb.size; omega) (by simp only [Fv.nodes] at hnd; omega)).mono (fun e w' h => ⟨h.1, hb.trans (h.2.mono (hb.size))⟩))) hs (fun c4 w4 k4 hb4 => ?_) b6 ⟨g6.1, g6.2.1, g6.2.2.1, g6.2.2.2.1, trivial⟩
    refine wp_ret ?_
    repeat (first | refine then_ret ?_ | refine inBlock_ret ?_)
    refine ft_ret_wp ⟨?_, hs.b.trans (hb4.mono hbs)⟩ c4 k4
    refine congrArg (fun x => Ending.returned (Value.string x)) (dat_inj ?_)
    simp only [dat_append]
    simp [Fv.text, dat]
  | bin k f g ihf ihg =>
    intro hok cs w S ht hS hnd
    obtain ⟨hk, ok2, ok3⟩ := hok
    rcases hk with rfl | rfl | rfl
    ·
      obtain ⟨u, v9, rfl, hnm0, hw, hl⟩ := Fm.open_ (a := ⟨((5 : Nat) : Int), ⟨#[]⟩, []⟩) (l := [f.fm, g.fm]) ht
      obtain ⟨A, n1, c1, rfl, e1, hm1, _⟩ := id hw
      obtain ⟨B, n2, c2, rfl, e2, hm2, _⟩ := id hl
      have hbl := Nat.le_refl w.heap.size
      go_enter Tryd.func16, Tryd.ntmps16
      refine wp_seq ?_
      refine ft_r0_wp (fun a0 h0 => ?_) _ (id ⟨rfl, rfl, rfl, trivial⟩)
      refine gen_last (fun wx => TX w wx ((5 : Nat) : Int) ⟨#[]⟩ A n1 c1 B n2 c2) ⟨heap_at (by simp), (Below.refl _ _).alloc (Nat.le_refl _) _⟩ ?_
      intro w0 hs
      have hold := fun k hk => hs.b.block k (hS k hk)
      have hbs := hs.b.size
      refine wp_seq ?_
      refine wp_seq ?_
      refine ft_r1_wp hs (fun a1 h1 => ?_) a0 h0
      refine wp_block ?_
      obtain ⟨b, o, kc, eq, hSb, hr, hc⟩ := Rep.Sl.at_ hl (k := 0) (a := f.fm) rfl
      obtain ⟨Ae, n3, c3, Be, n4, c4, rfl, _, _, _, _⟩ := Fm.shape hr
      obtain ⟨bf, of, kcf, eqf, hSbf, hrf, hcf⟩ := Rep.Sl.at_ hl (k := 1) (a := g.fm) rfl
      obtain ⟨Aef, n3f, c3f, Bef, n4f, c4f, rfl, _, _, _, _⟩ := Fm.shape hrf
      subst eq
      injection eqf with eqf
      injection eqf with q1 q2
      subst q1 q2
      refine wp_seq ?_
      refine ft_r2_wp (fun a2 h2 => ?_) a1 h1
      refine wp_cond_false ((h2.eval (k := 9) (v := .bool (decide ((((5 : Nat) : Int)) = 1))) (by simp)).trans (by rw [show (decide ((((5 : Nat) : Int)) = 1)) = false from by decide])) ?_
      refine wp_seq ?_
      refine wp_seq ?_
      refine ft_r4_wp (fun b4 g4 => ?_) a2 ⟨h2.1, h2.2.1, h2.2.2.1, h2.2.2.2.1, trivial⟩
      refine wp_cond_false ((g4.eval (k := 11) (v := .bool (decide ((((5 : Nat) : Int)) = 2))) (by simp)).trans (by rw [show (decide ((((5 : Nat) : Int)) = 2)) = false from by decide])) ?_
      refine ft_r5_wp (fun b5 g5 => ?_) b4 ⟨g4.1, g4.2.1, g4.2.2.1, g4.2.2.2.1, trivial⟩
      show Code.wp _ _ _ b5 w0
      refine wp_cond_false ((g5.eval (k := 11) (v := .bool (decide ((((5 : Nat) : Int)) = 3))) (by simp)).trans (by rw [show (decide ((((5 : Nat) : Int)) = 3)) = false from by decide])) ?_
      refine wp_seq ?_
      refine ft_r17_wp (fun b6 g6 => ?_) b5 ⟨g5.1, g5.2.1, g5.2.2.1, g5.2.2.2.1, trivial⟩
      refine wp_cond_false ((g6.eval (k := 50) (v := .bool (decide ((((5 : Nat) : Int)) = 4))) (by simp)).trans (by rw [show (decide ((((5 : Nat) : Int)) = 4)) = false from by decide])) ?_
      refine wp_seq ?_
      refine ft_r19_wp (fun b7 g7 => ?_) b6 ⟨g6.1, g6.2.1, g6.2.2.1, g6.2.2.2.1, trivial⟩
      refine wp_cond_false ((g7.eval (k := 58) (v := .bool (decide ((((5 : Nat) : Int)) = 8))) (by simp)).trans (by rw [show (decide ((((5 : Nat) : Int)) = 8)) = false from by decide])) ?_
      refine wp_seq ?_
      refine ft_r21_wp (fun b8 g8 => ?_) b7 ⟨g7.1, g7.2.1, g7.2.2.1, g7.2.2.2.1, trivial⟩
      refine wp_cond_false ((g8.eval (k := 70) (v := .bool (decide ((((5 : Nat) : Int)) = 9))) (by simp)).trans (by rw [show (decide ((((5 : Nat) : Int)) = 9)) = false from by decide])) ?_
      refine wp_seq ?_
      refine ft_r23_wp (fun b9 g9 => ?_) b8 ⟨g8.1, g8.2.1, g8.2.2.1, g8.2.2.2.1, trivial⟩
      refine wp_cond_false ((g9.eval (k := 82) (v := .bool (decide ((((5 : Nat) : Int)) = 10))) (by simp)).trans (by rw [show (decide ((((5 : Nat) : Int)) = 10)) = false from by decide])) ?_
      refine wp_skip ?_
      show Code.wp _ _ _ b9 w0
      refine wp_seq ?_
      refine ft_r25_5_wp hs (fun c5 w5 k5 hb5 => ?_) b9 ⟨g9.1, g9.2.1, g9.2.2.1, g9.2.2.2.1, trivial⟩
      have hs5 := hs.below hb5
      have hbs5 := hs5.b.size
      have hold := fun k hk => hs5.b.block k (hS k hk)
      have e0 : w5.cell? ⟨b, o, none⟩ = _ := (cell_keep (hold b hSb) _).trans (by have := hc 0 _ rfl; exact this)
      have e1' : w5.cell? ⟨b, o + 1, none⟩ = _ := (cell_keep (hold b hSb) _).trans (by have := hc 1 _ rfl; exact this)
      have e2' : w5.cell? ⟨b, o + 2, none⟩ = _ := (cell_keep (hold b hSb) _).trans (by have := hc 2 _ rfl; exact this)
      have e3 : w5.cell? ⟨b, o + 3, none⟩ = _ := (cell_keep (hold b hSb) _).trans (by have := hc 3 _ rfl; exact this)
      have f0 : w5.cell? ⟨b, o + 4, none⟩ = _ := (cell_keep (hold b hSb) _).trans (by have := hcf 0 _ rfl; exact this)
      have f1 : w5.cell? ⟨b, o + 4 + 1, none⟩ = _ := (cell_keep (hold b hSb) _).trans (by have := hcf 1 _ rfl; exact this)
      have f2 : w5.cell? ⟨b, o + 4 + 2, none⟩ = _ := (cell_keep (hold b hSb) _).trans (by have := hcf 2 _ rfl; exact this)
      have f3 : w5.cell? ⟨b, o + 4 + 3, none⟩ = _ := (cell_keep (hold b hSb) _).trans (by have := hcf 3 _ rfl; exact this)
      refine wp_seq ?_
      refine Code.wp_mono (Q := Exit.then (fun a' w' => Frm 108 [(2, .string ((⟨#[40]⟩ : ByteArray) ++ ⟨f.text.toArray⟩ ++ (⟨#[32, 38, 32]⟩ : ByteArray) ++ ⟨g.text.toArray⟩ ++ (⟨#[41]⟩ : ByteArray)))] a' ∧ Below w5.heap.size w5 w') (fun _ _ _ => False)) ?_ (ft_r26_wp rfl (by have := Fv.text_len f ok2; simp only [Fv.nodes] at hnd; simp [ByteArray.size]; omega) (by have := Fv.text_len g ok3; simp only [Fv.nodes] at hnd; simp [ByteArray.size]; omega) (by rw [← e2]; simp) e0 e1' e2' e3 f0 f1 f2 f3 (by have := hS b hSb; omega) (fun W hb => ((ihf ok2 _ W S (fmRep.keep hr (fun k hk => (hb.block k (by have := hS k hk; omega)).trans (hold k hk)) (fun _ h => h)) (fun k hk => by have := hS k hk; have := hb.size; omega) (by simp only [Fv.nodes] at hnd; omega)).mono (fun e w' h => ⟨h.1, hb.trans (h.2.mono (hb.size))⟩))) (fun W hb => ((ihg ok3 _ W S (fmRep.keep hrf (fun k hk => (hb.block k (by have := hS k hk; omega)).trans (hold k hk)) (fun _ h => h)) (fun k hk => by have := hS k hk; have := hb.size; omega) (by simp only [Fv.nodes] at hnd; omega)).mono (fun e w' h => ⟨h.1, hb.trans (h.2.mono (hb.size))⟩))) hs5 (fun a' w' h' hb' => ⟨h', hb'⟩) c5 k5)
      intro ex c4 w4 hx
      cases ex with
      | normal =>
        obtain ⟨k4, hb4⟩ := hx
        show Code.wp _ _ _ c4 w4
        refine wp_ret ?_
        refine ft_ret_wp ⟨?_, hs5.b.trans (hb4.mono hbs5)⟩ c4 k4
        refine congrArg (fun x => Ending.returned (Value.string x)) (dat_inj ?_)
        simp only [dat_append]
        simp [Fv.text, signB, dat]
      | _ => exact hx.elim
    ·
      obtain ⟨u, v9, rfl, hnm0, hw, hl⟩ := Fm.open_ (a := ⟨((6 : Nat) : Int), ⟨#[]⟩, []⟩) (l := [f.fm, g.fm]) ht
      obtain ⟨A, n1, c1, rfl, e1, hm1, _⟩ := id hw
      obtain ⟨B, n2, c2, rfl, e2, hm2, _⟩ := id hl
      have hbl := Nat.le_refl w.heap.size
      go_enter Tryd.func16, Tryd.ntmps16
      refine wp_seq ?_
      refine ft_r0_wp (fun a0 h0 => ?_) _ (id ⟨rfl, rfl, rfl, trivial⟩)
      refine gen_last (fun wx => TX w wx ((6 : Nat) : Int) ⟨#[]⟩ A n1 c1 B n2 c2) ⟨heap_at (by simp), (Below.refl _ _).alloc (Nat.le_refl _) _⟩ ?_
      intro w0 hs
      have hold := fun k hk => hs.b.block k (hS k hk)
      have hbs := hs.b.size
      refine wp_seq ?_
      refine wp_seq ?_
      refine ft_r1_wp hs (fun a1 h1 => ?_) a0 h0
      refine wp_block ?_
      obtain ⟨b, o, kc, eq, hSb, hr, hc⟩ := Rep.Sl.at_ hl (k := 0) (a := f.fm) rfl
      obtain ⟨Ae, n3, c3, Be, n4, c4, rfl, _, _, _, _⟩ := Fm.shape hr
      obtain ⟨bf, of, kcf, eqf, hSbf, hrf, hcf⟩ := Rep.Sl.at_ hl (k := 1) (a := g.fm) rfl
      obtain ⟨Aef, n3f, c3f, Bef, n4f, c4f, rfl, _, _, _, _⟩ := Fm.shape hrf
      subst eq
      injection eqf with eqf
      injection eqf with q1 q2
      subst q1 q2
      refine wp_seq ?_
      refine ft_r2_wp (fun a2 h2 => ?_) a1 h1
      refine wp_cond_false ((h2.eval (k := 9) (v := .bool (decide ((((6 : Nat) : Int)) = 1))) (by simp)).trans (by rw [show (decide ((((6 : Nat) : Int)) = 1)) = false from by decide])) ?_
      refine wp_seq ?_
      refine wp_seq ?_
      refine ft_r4_wp (fun b4 g4 => ?_) a2 ⟨h2.1, h2.2.1, h2.2.2.1, h2.2.2.2.1, trivial⟩
      refine wp_cond_false ((g4.eval (k := 11) (v := .bool (decide ((((6 : Nat) : Int)) = 2))) (by simp)).trans (by rw [show (decide ((((6 : Nat) : Int)) = 2)) = false from by decide])) ?_
      refine ft_r5_wp (fun b5 g5 => ?_) b4 ⟨g4.1, g4.2.1, g4.2.2.1, g4.2.2.2.1, trivial⟩
      show Code.wp _ _ _ b5 w0
      refine wp_cond_false ((g5.eval (k := 11) (v := .bool (decide ((((6 : Nat) : Int)) = 3))) (by simp)).trans (by rw [show (decide ((((6 : Nat) : Int)) = 3)) = false from by decide])) ?_
      refine wp_seq ?_
      refine ft_r17_wp (fun b6 g6 => ?_) b5 ⟨g5.1, g5.2.1, g5.2.2.1, g5.2.2.2.1, trivial⟩
      refine wp_cond_false ((g6.eval (k := 50) (v := .bool (decide ((((6 : Nat) : Int)) = 4))) (by simp)).trans (by rw [show (decide ((((6 : Nat) : Int)) = 4)) = false from by decide])) ?_
      refine wp_seq ?_
      refine ft_r19_wp (fun b7 g7 => ?_) b6 ⟨g6.1, g6.2.1, g6.2.2.1, g6.2.2.2.1, trivial⟩
      refine wp_cond_false ((g7.eval (k := 58) (v := .bool (decide ((((6 : Nat) : Int)) = 8))) (by simp)).trans (by rw [show (decide ((((6 : Nat) : Int)) = 8)) = false from by decide])) ?_
      refine wp_seq ?_
      refine ft_r21_wp (fun b8 g8 => ?_) b7 ⟨g7.1, g7.2.1, g7.2.2.1, g7.2.2.2.1, trivial⟩
      refine wp_cond_false ((g8.eval (k := 70) (v := .bool (decide ((((6 : Nat) : Int)) = 9))) (by simp)).trans (by rw [show (decide ((((6 : Nat) : Int)) = 9)) = false from by decide])) ?_
      refine wp_seq ?_
      refine ft_r23_wp (fun b9 g9 => ?_) b8 ⟨g8.1, g8.2.1, g8.2.2.1, g8.2.2.2.1, trivial⟩
      refine wp_cond_false ((g9.eval (k := 82) (v := .bool (decide ((((6 : Nat) : Int)) = 10))) (by simp)).trans (by rw [show (decide ((((6 : Nat) : Int)) = 10)) = false from by decide])) ?_
      refine wp_skip ?_
      show Code.wp _ _ _ b9 w0
      refine wp_seq ?_
      refine ft_r25_6_wp hs (fun c5 w5 k5 hb5 => ?_) b9 ⟨g9.1, g9.2.1, g9.2.2.1, g9.2.2.2.1, trivial⟩
      have hs5 := hs.below hb5
      have hbs5 := hs5.b.size
      have hold := fun k hk => hs5.b.block k (hS k hk)
      have e0 : w5.cell? ⟨b, o, none⟩ = _ := (cell_keep (hold b hSb) _).trans (by have := hc 0 _ rfl; exact this)
      have e1' : w5.cell? ⟨b, o + 1, none⟩ = _ := (cell_keep (hold b hSb) _).trans (by have := hc 1 _ rfl; exact this)
      have e2' : w5.cell? ⟨b, o + 2, none⟩ = _ := (cell_keep (hold b hSb) _).trans (by have := hc 2 _ rfl; exact this)
      have e3 : w5.cell? ⟨b, o + 3, none⟩ = _ := (cell_keep (hold b hSb) _).trans (by have := hc 3 _ rfl; exact this)
      have f0 : w5.cell? ⟨b, o + 4, none⟩ = _ := (cell_keep (hold b hSb) _).trans (by have := hcf 0 _ rfl; exact this)
      have f1 : w5.cell? ⟨b, o + 4 + 1, none⟩ = _ := (cell_keep (hold b hSb) _).trans (by have := hcf 1 _ rfl; exact this)
      have f2 : w5.cell? ⟨b, o + 4 + 2, none⟩ = _ := (cell_keep (hold b hSb) _).trans (by have := hcf 2 _ rfl; exact this)
      have f3 : w5.cell? ⟨b, o + 4 + 3, none⟩ = _ := (cell_keep (hold b hSb) _).trans (by have := hcf 3 _ rfl; exact this)
      refine wp_seq ?_
      refine Code.wp_mono (Q := Exit.then (fun a' w' => Frm 108 [(2, .string ((⟨#[40]⟩ : ByteArray) ++ ⟨f.text.toArray⟩ ++ (⟨#[32, 124, 32]⟩ : ByteArray) ++ ⟨g.text.toArray⟩ ++ (⟨#[41]⟩ : ByteArray)))] a' ∧ Below w5.heap.size w5 w') (fun _ _ _ => False)) ?_ (ft_r26_wp rfl (by have := Fv.text_len f ok2; simp only [Fv.nodes] at hnd; simp [ByteArray.size]; omega) (by have := Fv.text_len g ok3; simp only [Fv.nodes] at hnd; simp [ByteArray.size]; omega) (by rw [← e2]; simp) e0 e1' e2' e3 f0 f1 f2 f3 (by have := hS b hSb; omega) (fun W hb => ((ihf ok2 _ W S (fmRep.keep hr (fun k hk => (hb.block k (by have := hS k hk; omega)).trans (hold k hk)) (fun _ h => h)) (fun k hk => by have := hS k hk; have := hb.size; omega) (by simp only [Fv.nodes] at hnd; omega)).mono (fun e w' h => ⟨h.1, hb.trans (h.2.mono (hb.size))⟩))) (fun W hb => ((ihg ok3 _ W S (fmRep.keep hrf (fun k hk => (hb.block k (by have := hS k hk; omega)).trans (hold k hk)) (fun _ h => h)) (fun k hk => by have := hS k hk; have := hb.size; omega) (by simp only [Fv.nodes] at hnd; omega)).mono (fun e w' h => ⟨h.1, hb.trans (h.2.mono (hb.size))⟩))) hs5 (fun a' w' h' hb' => ⟨h', hb'⟩) c5 k5)
      intro ex c4 w4 hx
      cases ex with
      | normal =>
        obtain ⟨k4, hb4⟩ := hx
        show Code.wp _ _ _ c4 w4
        refine wp_ret ?_
        refine ft_ret_wp ⟨?_, hs5.b.trans (hb4.mono hbs5)⟩ c4 k4
        refine congrArg (fun x => Ending.returned (Value.string x)) (dat_inj ?_)
        simp only [dat_append]
        simp [Fv.text, signB, dat]
      | _ => exact hx.elim
    ·
      obtain ⟨u, v9, rfl, hnm0, hw, hl⟩ := Fm.open_ (a := ⟨((7 : Nat) : Int), ⟨#[]⟩, []⟩) (l := [f.fm, g.fm]) ht
      obtain ⟨A, n1, c1, rfl, e1, hm1, _⟩ := id hw
      obtain ⟨B, n2, c2, rfl, e2, hm2, _⟩ := id hl
      have hbl := Nat.le_refl w.heap.size
      go_enter Tryd.func16, Tryd.ntmps16
      refine wp_seq ?_
      refine ft_r0_wp (fun a0 h0 => ?_) _ (id ⟨rfl, rfl, rfl, trivial⟩)
      refine gen_last (fun wx => TX w wx ((7 : Nat) : Int) ⟨#[]⟩ A n1 c1 B n2 c2) ⟨heap_at (by simp), (Below.refl _ _).alloc (Nat.le_refl _) _⟩ ?_
      intro w0 hs
      have hold := fun k hk => hs.b.block k (hS k hk)
      have hbs := hs.b.size
      refine wp_seq ?_
      refine wp_seq ?_
      refine ft_r1_wp hs (fun a1 h1 => ?_) a0 h0
      refine wp_block ?_
      obtain ⟨b, o, kc, eq, hSb, hr, hc⟩ := Rep.Sl.at_ hl (k := 0) (a := f.fm) rfl
      obtain ⟨Ae, n3, c3, Be, n4, c4, rfl, _, _, _, _⟩ := Fm.shape hr
      obtain ⟨bf, of, kcf, eqf, hSbf, hrf, hcf⟩ := Rep.Sl.at_ hl (k := 1) (a := g.fm) rfl
      obtain ⟨Aef, n3f, c3f, Bef, n4f, c4f, rfl, _, _, _, _⟩ := Fm.shape hrf
      subst eq
      injection eqf with eqf
      injection eqf with q1 q2
      subst q1 q2
      refine wp_seq ?_
      refine ft_r2_wp (fun a2 h2 => ?_) a1 h1
      refine wp_cond_false ((h2.eval (k := 9) (v := .bool (decide ((((7 : Nat) : Int)) = 1))) (by simp)).trans (by rw [show (decide ((((7 : Nat) : Int)) = 1)) = false from by decide])) ?_
      refine wp_seq ?_
      refine wp_seq ?_
      refine ft_r4_wp (fun b4 g4 => ?_) a2 ⟨h2.1, h2.2.1, h2.2.2.1, h2.2.2.2.1, trivial⟩
      refine wp_cond_false ((g4.eval (k := 11) (v := .bool (decide ((((7 : Nat) : Int)) = 2))) (by simp)).trans (by rw [show (decide ((((7 : Nat) : Int)) = 2)) = false from by decide])) ?_
      refine ft_r5_wp (fun b5 g5 => ?_) b4 ⟨g4.1, g4.2.1, g4.2.2.1, g4.2.2.2.1, trivial⟩
      show Code.wp _ _ _ b5 w0
      refine wp_cond_false ((g5.eval (k := 11) (v := .bool (decide ((((7 : Nat) : Int)) = 3))) (by simp)).trans (by rw [show (decide ((((7 : Nat) : Int)) = 3)) = false from by decide])) ?_
      refine wp_seq ?_
      refine ft_r17_wp (fun b6 g6 => ?_) b5 ⟨g5.1, g5.2.1, g5.2.2.1, g5.2.2.2.1, trivial⟩
      refine wp_cond_false ((g6.eval (k := 50) (v := .bool (decide ((((7 : Nat) : Int)) = 4))) (by simp)).trans (by rw [show (decide ((((7 : Nat) : Int)) = 4)) = false from by decide])) ?_
      refine wp_seq ?_
      refine ft_r19_wp (fun b7 g7 => ?_) b6 ⟨g6.1, g6.2.1, g6.2.2.1, g6.2.2.2.1, trivial⟩
      refine wp_cond_false ((g7.eval (k := 58) (v := .bool (decide ((((7 : Nat) : Int)) = 8))) (by simp)).trans (by rw [show (decide ((((7 : Nat) : Int)) = 8)) = false from by decide])) ?_
      refine wp_seq ?_
      refine ft_r21_wp (fun b8 g8 => ?_) b7 ⟨g7.1, g7.2.1, g7.2.2.1, g7.2.2.2.1, trivial⟩
      refine wp_cond_false ((g8.eval (k := 70) (v := .bool (decide ((((7 : Nat) : Int)) = 9))) (by simp)).trans (by rw [show (decide ((((7 : Nat) : Int)) = 9)) = false from by decide])) ?_
      refine wp_seq ?_
      refine ft_r23_wp (fun b9 g9 => ?_) b8 ⟨g8.1, g8.2.1, g8.2.2.1, g8.2.2.2.1, trivial⟩
      refine wp_cond_false ((g9.eval (k := 82) (v := .bool (decide ((((7 : Nat) : Int)) = 10))) (by simp)).trans (by rw [show (decide ((((7 : Nat) : Int)) = 10)) = false from by decide])) ?_
      refine wp_skip ?_
      show Code.wp _ _ _ b9 w0
      refine wp_seq ?_
      refine ft_r25_7_wp hs (fun c5 w5 k5 hb5 => ?_) b9 ⟨g9.1, g9.2.1, g9.2.2.1, g9.2.2.2.1, trivial⟩
      have hs5 := hs.below hb5
      have hbs5 := hs5.b.size
      have hold := fun k hk => hs5.b.block k (hS k hk)
      have e0 : w5.cell? ⟨b, o, none⟩ = _ := (cell_keep (hold b hSb) _).trans (by have := hc 0 _ rfl; exact this)
      have e1' : w5.cell? ⟨b, o + 1, none⟩ = _ := (cell_keep (hold b hSb) _).trans (by have := hc 1 _ rfl; exact this)
      have e2' : w5.cell? ⟨b, o + 2, none⟩ = _ := (cell_keep (hold b hSb) _).trans (by have := hc 2 _ rfl; exact this)
      have e3 : w5.cell? ⟨b, o + 3, none⟩ = _ := (cell_keep (hold b hSb) _).trans (by have := hc 3 _ rfl; exact this)
      have f0 : w5.cell? ⟨b, o + 4, none⟩ = _ := (cell_keep (hold b hSb) _).trans (by have := hcf 0 _ rfl; exact this)
      have f1 : w5.cell? ⟨b, o + 4 + 1, none⟩ = _ := (cell_keep (hold b hSb) _).trans (by have := hcf 1 _ rfl; exact this)
      have f2 : w5.cell? ⟨b, o + 4 + 2, none⟩ = _ := (cell_keep (hold b hSb) _).trans (by have := hcf 2 _ rfl; exact this)
      have f3 : w5.cell? ⟨b, o + 4 + 3, none⟩ = _ := (cell_keep (hold b hSb) _).trans (by have := hcf 3 _ rfl; exact this)
      refine wp_seq ?_
      refine Code.wp_mono (Q := Exit.then (fun a' w' => Frm 108 [(2, .string ((⟨#[40]⟩ : ByteArray) ++ ⟨f.text.toArray⟩ ++ (⟨#[32, 62, 32]⟩ : ByteArray) ++ ⟨g.text.toArray⟩ ++ (⟨#[41]⟩ : ByteArray)))] a' ∧ Below w5.heap.size w5 w') (fun _ _ _ => False)) ?_ (ft_r26_wp rfl (by have := Fv.text_len f ok2; simp only [Fv.nodes] at hnd; simp [ByteArray.size]; omega) (by have := Fv.text_len g ok3; simp only [Fv.nodes] at hnd; simp [ByteArray.size]; omega) (by rw [← e2]; simp) e0 e1' e2' e3 f0 f1 f2 f3 (by have := hS b hSb; omega) (fun W hb => ((ihf ok2 _ W S (fmRep.keep hr (fun k hk => (hb.block k (by have := hS k hk; omega)).trans (hold k hk)) (fun _ h => h)) (fun k hk => by have := hS k hk; have := hb.size; omega) (by simp only [Fv.nodes] at hnd; omega)).mono (fun e w' h => ⟨h.1, hb.trans (h.2.mono (hb.size))⟩))) (fun W hb => ((ihg ok3 _ W S (fmRep.keep hrf (fun k hk => (hb.block k (by have := hS k hk; omega)).trans (hold k hk)) (fun _ h => h)) (fun k hk => by have := hS k hk; have := hb.size; omega) (by simp only [Fv.nodes] at hnd; omega)).mono (fun e w' h => ⟨h.1, hb.trans (h.2.mono (hb.size))⟩))) hs5 (fun a' w' h' hb' => ⟨h', hb'⟩) c5 k5)
      intro ex c4 w4 hx
      cases ex with
      | normal =>
        obtain ⟨k4, hb4⟩ := hx
        show Code.wp _ _ _ c4 w4
        refine wp_ret ?_
        refine ft_ret_wp ⟨?_, hs5.b.trans (hb4.mono hbs5)⟩ c4 k4
        refine congrArg (fun x => Ending.returned (Value.string x)) (dat_inj ?_)
        simp only [dat_append]
        simp [Fv.text, signB, dat]
      | _ => exact hx.elim
  | qu k x f ih =>
    intro hok cs w S ht hS hnd
    obtain ⟨hk, ok1, ok2⟩ := hok
    rcases hk with rfl | rfl
    ·
      obtain ⟨u, v9, rfl, hnm0, hw, hl⟩ := Fm.open_ (a := ⟨((8 : Nat) : Int), x, []⟩) (l := [f.fm]) ht
      obtain ⟨A, n1, c1, rfl, e1, hm1, _⟩ := id hw
      obtain ⟨B, n2, c2, rfl, e2, hm2, _⟩ := id hl
      have hnz : x.size ≤ 100000 := by have := okName_le ok1; omega
      have hbl := Nat.le_refl w.heap.size
      go_enter Tryd.func16, Tryd.ntmps16
      refine wp_seq ?_
      refine ft_r0_wp (fun a0 h0 => ?_) _ (id ⟨rfl, rfl, rfl, trivial⟩)
      refine gen_last (fun wx => TX w wx ((8 : Nat) : Int) x A n1 c1 B n2 c2) ⟨heap_at (by simp), (Below.refl _ _).alloc (Nat.le_refl _) _⟩ ?_
      intro w0 hs
      have hold := fun k hk => hs.b.block k (hS k hk)
      have hbs := hs.b.size
      refine wp_seq ?_
      refine wp_seq ?_
      refine ft_r1_wp hs (fun a1 h1 => ?_) a0 h0
      refine wp_block ?_
      obtain ⟨b, o, kc, eq, hSb, hr, hc⟩ := Rep.Sl.at_ hl (k := 0) (a := f.fm) rfl
      obtain ⟨Ae, n3, c3, Be, n4, c4, rfl, _, _, _, _⟩ := Fm.shape hr
      subst eq
      have e0 : w0.cell? ⟨b, o, none⟩ = _ := (cell_keep (hold b hSb) _).trans (by have := hc 0 _ rfl; exact this)
      have e1' : w0.cell? ⟨b, o + 1, none⟩ = _ := (cell_keep (hold b hSb) _).trans (by have := hc 1 _ rfl; exact this)
      have e2' : w0.cell? ⟨b, o + 2, none⟩ = _ := (cell_keep (hold b hSb) _).trans (by have := hc 2 _ rfl; exact this)
      have e3 : w0.cell? ⟨b, o + 3, none⟩ = _ := (cell_keep (hold b hSb) _).trans (by have := hc 3 _ rfl; exact this)
      refine wp_seq ?_
      refine ft_r2_wp (fun a2 h2 => ?_) a1 h1
      refine wp_cond_false ((h2.eval (k := 9) (v := .bool (decide ((((8 : Nat) : Int)) = 1))) (by simp)).trans (by rw [show (decide ((((8 : Nat) : Int)) = 1)) = false from by decide])) ?_
      refine wp_seq ?_
      refine wp_seq ?_
      refine ft_r4_wp (fun b4 g4 => ?_) a2 ⟨h2.1, h2.2.1, h2.2.2.1, h2.2.2.2.1, trivial⟩
      refine wp_cond_false ((g4.eval (k := 11) (v := .bool (decide ((((8 : Nat) : Int)) = 2))) (by simp)).trans (by rw [show (decide ((((8 : Nat) : Int)) = 2)) = false from by decide])) ?_
      refine ft_r5_wp (fun b5 g5 => ?_) b4 ⟨g4.1, g4.2.1, g4.2.2.1, g4.2.2.2.1, trivial⟩
      show Code.wp _ _ _ b5 w0
      refine wp_cond_false ((g5.eval (k := 11) (v := .bool (decide ((((8 : Nat) : Int)) = 3))) (by simp)).trans (by rw [show (decide ((((8 : Nat) : Int)) = 3)) = false from by decide])) ?_
      refine wp_seq ?_
      refine ft_r17_wp (fun b6 g6 => ?_) b5 ⟨g5.1, g5.2.1, g5.2.2.1, g5.2.2.2.1, trivial⟩
      refine wp_cond_false ((g6.eval (k := 50) (v := .bool (decide ((((8 : Nat) : Int)) = 4))) (by simp)).trans (by rw [show (decide ((((8 : Nat) : Int)) = 4)) = false from by decide])) ?_
      refine wp_seq ?_
      refine ft_r19_wp (fun b7 g7 => ?_) b6 ⟨g6.1, g6.2.1, g6.2.2.1, g6.2.2.2.1, trivial⟩
      refine wp_cond_true ((g7.eval (k := 58) (v := .bool (decide ((((8 : Nat) : Int)) = 8))) (by simp)).trans (by rw [show (decide ((((8 : Nat) : Int)) = 8)) = true from by decide])) ?_
      refine wp_seq ?_
      refine Code.wp_mono (Q := Exit.then (fun a' w' => Frm 108 [(2, .string ((⟨#[97, 108, 108, 32]⟩ : ByteArray) ++ x ++ (⟨#[32]⟩ : ByteArray) ++ ⟨f.text.toArray⟩))] a' ∧ Below w0.heap.size w0 w') (fun _ _ _ => False)) ?_ (ft_r20_wp hnz (by have := Fv.text_len f ok2; simp only [Fv.nodes] at hnd; simp [ByteArray.size]; omega) (by rw [← e2]; simp) e0 e1' e2' e3 (by have := hS b hSb; omega) (fun W hb => ((ih ok2 _ W S (fmRep.keep hr (fun k hk => (hb.block k (by have := hS k hk; omega)).trans (hold k hk)) (fun _ h => h)) (fun k hk => by have := hS k hk; have := hb.size; omega) (by simp only [Fv.nodes] at hnd; omega)).mono (fun e w' h => ⟨h.1, hb.trans (h.2.mono (hb.size))⟩))) hs (fun a' w' h' hb' => ⟨h', hb'⟩) b7 ⟨g7.1, g7.2.1, g7.2.2.1, g7.2.2.2.1, trivial⟩)
      intro ex c4 w4 hx
      cases ex with
      | normal =>
        obtain ⟨k4, hb4⟩ := hx
        show Code.wp _ _ _ c4 w4
        refine wp_ret ?_
        repeat (first | refine then_ret ?_ | refine inBlock_ret ?_)
        refine ft_ret_wp ⟨?_, hs.b.trans (hb4.mono hbs)⟩ c4 k4
        refine congrArg (fun x => Ending.returned (Value.string x)) (dat_inj ?_)
        simp only [dat_append]
        simp [Fv.text, quB, dat]
      | _ => exact hx.elim
    ·
      obtain ⟨u, v9, rfl, hnm0, hw, hl⟩ := Fm.open_ (a := ⟨((9 : Nat) : Int), x, []⟩) (l := [f.fm]) ht
      obtain ⟨A, n1, c1, rfl, e1, hm1, _⟩ := id hw
      obtain ⟨B, n2, c2, rfl, e2, hm2, _⟩ := id hl
      have hnz : x.size ≤ 100000 := by have := okName_le ok1; omega
      have hbl := Nat.le_refl w.heap.size
      go_enter Tryd.func16, Tryd.ntmps16
      refine wp_seq ?_
      refine ft_r0_wp (fun a0 h0 => ?_) _ (id ⟨rfl, rfl, rfl, trivial⟩)
      refine gen_last (fun wx => TX w wx ((9 : Nat) : Int) x A n1 c1 B n2 c2) ⟨heap_at (by simp), (Below.refl _ _).alloc (Nat.le_refl _) _⟩ ?_
      intro w0 hs
      have hold := fun k hk => hs.b.block k (hS k hk)
      have hbs := hs.b.size
      refine wp_seq ?_
      refine wp_seq ?_
      refine ft_r1_wp hs (fun a1 h1 => ?_) a0 h0
      refine wp_block ?_
      obtain ⟨b, o, kc, eq, hSb, hr, hc⟩ := Rep.Sl.at_ hl (k := 0) (a := f.fm) rfl
      obtain ⟨Ae, n3, c3, Be, n4, c4, rfl, _, _, _, _⟩ := Fm.shape hr
      subst eq
      have e0 : w0.cell? ⟨b, o, none⟩ = _ := (cell_keep (hold b hSb) _).trans (by have := hc 0 _ rfl; exact this)
      have e1' : w0.cell? ⟨b, o + 1, none⟩ = _ := (cell_keep (hold b hSb) _).trans (by have := hc 1 _ rfl; exact this)
      have e2' : w0.cell? ⟨b, o + 2, none⟩ = _ := (cell_keep (hold b hSb) _).trans (by have := hc 2 _ rfl; exact this)
      have e3 : w0.cell? ⟨b, o + 3, none⟩ = _ := (cell_keep (hold b hSb) _).trans (by have := hc 3 _ rfl; exact this)
      refine wp_seq ?_
      refine ft_r2_wp (fun a2 h2 => ?_) a1 h1
      refine wp_cond_false ((h2.eval (k := 9) (v := .bool (decide ((((9 : Nat) : Int)) = 1))) (by simp)).trans (by rw [show (decide ((((9 : Nat) : Int)) = 1)) = false from by decide])) ?_
      refine wp_seq ?_
      refine wp_seq ?_
      refine ft_r4_wp (fun b4 g4 => ?_) a2 ⟨h2.1, h2.2.1, h2.2.2.1, h2.2.2.2.1, trivial⟩
      refine wp_cond_false ((g4.eval (k := 11) (v := .bool (decide ((((9 : Nat) : Int)) = 2))) (by simp)).trans (by rw [show (decide ((((9 : Nat) : Int)) = 2)) = false from by decide])) ?_
      refine ft_r5_wp (fun b5 g5 => ?_) b4 ⟨g4.1, g4.2.1, g4.2.2.1, g4.2.2.2.1, trivial⟩
      show Code.wp _ _ _ b5 w0
      refine wp_cond_false ((g5.eval (k := 11) (v := .bool (decide ((((9 : Nat) : Int)) = 3))) (by simp)).trans (by rw [show (decide ((((9 : Nat) : Int)) = 3)) = false from by decide])) ?_
      refine wp_seq ?_
      refine ft_r17_wp (fun b6 g6 => ?_) b5 ⟨g5.1, g5.2.1, g5.2.2.1, g5.2.2.2.1, trivial⟩
      refine wp_cond_false ((g6.eval (k := 50) (v := .bool (decide ((((9 : Nat) : Int)) = 4))) (by simp)).trans (by rw [show (decide ((((9 : Nat) : Int)) = 4)) = false from by decide])) ?_
      refine wp_seq ?_
      refine ft_r19_wp (fun b7 g7 => ?_) b6 ⟨g6.1, g6.2.1, g6.2.2.1, g6.2.2.2.1, trivial⟩
      refine wp_cond_false ((g7.eval (k := 58) (v := .bool (decide ((((9 : Nat) : Int)) = 8))) (by simp)).trans (by rw [show (decide ((((9 : Nat) : Int)) = 8)) = false from by decide])) ?_
      refine wp_seq ?_
      refine ft_r21_wp (fun b8 g8 => ?_) b7 ⟨g7.1, g7.2.1, g7.2.2.1, g7.2.2.2.1, trivial⟩
      refine wp_cond_true ((g8.eval (k := 70) (v := .bool (decide ((((9 : Nat) : Int)) = 9))) (by simp)).trans (by rw [show (decide ((((9 : Nat) : Int)) = 9)) = true from by decide])) ?_
      refine wp_seq ?_
      refine Code.wp_mono (Q := Exit.then (fun a' w' => Frm 108 [(2, .string ((⟨#[115, 111, 109, 101, 32]⟩ : ByteArray) ++ x ++ (⟨#[32]⟩ : ByteArray) ++ ⟨f.text.toArray⟩))] a' ∧ Below w0.heap.size w0 w') (fun _ _ _ => False)) ?_ (ft_r22_wp hnz (by have := Fv.text_len f ok2; simp only [Fv.nodes] at hnd; simp [ByteArray.size]; omega) (by rw [← e2]; simp) e0 e1' e2' e3 (by have := hS b hSb; omega) (fun W hb => ((ih ok2 _ W S (fmRep.keep hr (fun k hk => (hb.block k (by have := hS k hk; omega)).trans (hold k hk)) (fun _ h => h)) (fun k hk => by have := hS k hk; have := hb.size; omega) (by simp only [Fv.nodes] at hnd; omega)).mono (fun e w' h => ⟨h.1, hb.trans (h.2.mono (hb.size))⟩))) hs (fun a' w' h' hb' => ⟨h', hb'⟩) b8 ⟨g8.1, g8.2.1, g8.2.2.1, g8.2.2.2.1, trivial⟩)
      intro ex c4 w4 hx
      cases ex with
      | normal =>
        obtain ⟨k4, hb4⟩ := hx
        show Code.wp _ _ _ c4 w4
        refine wp_ret ?_
        repeat (first | refine then_ret ?_ | refine inBlock_ret ?_)
        refine ft_ret_wp ⟨?_, hs.b.trans (hb4.mono hbs)⟩ c4 k4
        refine congrArg (fun x => Ending.returned (Value.string x)) (dat_inj ?_)
        simp only [dat_append]
        simp [Fv.text, quB, dat]
      | _ => exact hx.elim

end Go.Proofs.YtdofemkfmkopcaaDoor
