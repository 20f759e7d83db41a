/-
  FormRead by parts: the inner loop, joined.
-/
import Derived.Test.YtnoceodmnjhljabDoorFrF
import Derived.Deep.DeepCutAuto
import Derived.Deep.RegionLaw
import Derived.BigQuiet
namespace Go.Proofs.YtnoceodmnjhljabDoor
open Go Go.RowKit
set_option linter.unusedSimpArgs false
set_option linter.unusedVariables false

theorem fr_then {id : Nat} {next : Act → World → Prop} {Q : Exit → Act → World → Prop} {a : Act} {w : World} (h : Q (.exit id) a w) : Exit.then next Q (.exit id) a w := h
noncomputable def c_fr_sloop : Code := sub [1, 1, 1, 1, 1, 0, 0, 0, 1, 1, 1, 1, 1, 1, 1, 1, 0, 0, 0, 1, 1, 1, 1, 0, 1, 0, 0, 1, 0] (Tryd.f12.body.getD .skip)
set_option maxRecDepth 100000 in
theorem fr_sloop_wp {Q : Exit → Act → World → Prop} {x : ByteArray} {w wi : World} {i n : Nat} {r : List F5} {g cq D lo h cap : Nat} {v : Fv} {dc : List Value} {R0 : Fr} {op : List Ff} (hdc : dc = [dc.getD 0 undef, dc.getD 1 undef, dc.getD 2 undef, dc.getD 3 undef]) (h4 : i ≤ 4000) (hp : TopF w wi .par0 r g cq D lo h cap v dc 0) (hfold : foldF x (.par0 :: op) v i n = R0) (hR : ∀ c j : Nat, R0 = .bad c j → ∀ a' w', Frm 464 [(2, .pointer (some ⟨w.heap.size, 0, none⟩)), (3, .pointer (some ⟨w.heap.size + 1, 0, none⟩))] a' → w'.heap[w.heap.size]? = some (.cells #[.int .i64 0, .string ⟨#[]⟩, .slice none 0 0, .slice none 0 0] 34 (0, 0)) → w'.heap[w.heap.size + 1]? = some (.cells #[.int .i64 (c : Nat), .int .i64 (j : Nat)] 27 (0, 0)) → Below w.heap.size w w' → Q .ret a' w')
    (hX : byteAt x i = 32 → signF (byteAt x (i + 1)) ≠ 0 → byteAt x (i + 2) = 32 → ∀ a' wx, Frm 464 [(0, .string x), (2, .pointer (some ⟨w.heap.size, 0, none⟩)), (3, .pointer (some ⟨w.heap.size + 1, 0, none⟩)), (4, .pointer (some ⟨w.heap.size + 2, 0, none⟩)), (5, .slice (some ⟨g, 0, none⟩) (r.length + 1) cq), (6, .int .i64 (i : Nat)), (7, .int .i64 (n : Nat)), (9, .pointer (some ⟨D, 0, none⟩)), (23, .int .i64 (r.length : Nat)), (24, .int .i64 3)] a' → TopF w wx .par0 r g cq D lo h cap v dc (signF (byteAt x (i + 1))) → Q (.exit 6) a' wx) : ∀ ac, Frm 464 [(0, .string x), (2, .pointer (some ⟨w.heap.size, 0, none⟩)), (3, .pointer (some ⟨w.heap.size + 1, 0, none⟩)), (4, .pointer (some ⟨w.heap.size + 2, 0, none⟩)), (5, .slice (some ⟨g, 0, none⟩) (r.length + 1) cq), (6, .int .i64 (i : Nat)), (7, .int .i64 (n : Nat)), (9, .pointer (some ⟨D, 0, none⟩)), (23, .int .i64 (r.length : Nat)), (24, .int .i64 0)] ac → Code.wp Tryd.prog c_fr_sloop Q ac wi := by
  intro a0 hf0
  conv => arg 2; whnf
  refine wp_loopR (fun q a' w' => ∃ k kd : Nat, k + q = 3 ∧ (1 ≤ k → byteAt x i = 32) ∧ (2 ≤ k → signF (byteAt x (i + 1)) ≠ 0 ∧ kd = signF (byteAt x (i + 1))) ∧ (3 ≤ k → byteAt x (i + 2) = 32) ∧ TopF w w' .par0 r g cq D lo h cap v dc kd ∧ Frm 464 [(0, .string x), (2, .pointer (some ⟨w.heap.size, 0, none⟩)), (3, .pointer (some ⟨w.heap.size + 1, 0, none⟩)), (4, .pointer (some ⟨w.heap.size + 2, 0, none⟩)), (5, .slice (some ⟨g, 0, none⟩) (r.length + 1) cq), (6, .int .i64 (i : Nat)), (7, .int .i64 (n : Nat)), (9, .pointer (some ⟨D, 0, none⟩)), (23, .int .i64 (r.length : Nat)), (24, .int .i64 (k : Nat))] a') 3 ⟨0, 0, rfl, fun h => by omega, fun h => by omega, fun h => by omega, hp, hf0⟩ ?_
  rintro q a1 w1 ⟨k, kd, hk, k1, k2, k3, hp1, hfr⟩
  refine wp_seq ?_
  refine fr_f381_wp (fun hk3 a2 h2 => ?_) (fun hk3 a2 h2 => ?_) a1 hfr
  rotate_left
  · obtain rfl : k = 3 := by omega
    obtain ⟨hs, rfl⟩ := k2 (by omega)
    exact hX (k1 (by omega)) hs (k3 (by omega)) a2 w1 h2 hp1
  show Code.wp _ _ _ a2 w1
  refine wp_seq ?_
  refine wp_block ?_
  refine wp_seq ?_
  refine fr_f84_wp (fun a3 h3 => ?_) a2 h2
  refine wp_seq ?_
  refine fr_f389_wp (by omega) (by omega) (fun a4 h4' => ?_) a3 h3
  refine wp_seq ?_
  refine fr_f87_wp (fun a5 h5 => ?_) a4 h4'
  have h5d : Frm 464 [(0, .string x), (2, .pointer (some ⟨w.heap.size, 0, none⟩)), (3, .pointer (some ⟨w.heap.size + 1, 0, none⟩)), (4, .pointer (some ⟨w.heap.size + 2, 0, none⟩)), (5, .slice (some ⟨g, 0, none⟩) (r.length + 1) cq), (6, .int .i64 (i : Nat)), (7, .int .i64 (n : Nat)), (9, .pointer (some ⟨D, 0, none⟩)), (23, .int .i64 (r.length : Nat)), (24, .int .i64 (k : Nat)), (25, .int .u8 (byteAt x (i + k) : Nat))] a5 := have h := h5; ⟨h.1, h.2.1, h.2.2.1, h.2.2.2.1, h.2.2.2.2.1, h.2.2.2.2.2.1, h.2.2.2.2.2.2.1, h.2.2.2.2.2.2.2.1, h.2.2.2.2.2.2.2.2.1, h.2.2.2.2.2.2.2.2.2.1, h.2.2.2.2.2.2.2.2.2.2.1, h.2.2.2.2.2.2.2.2.2.2.2.1, h.2.2.2.2.2.2.2.2.2.2.2.2.1, trivial⟩
  by_cases hsg : k = 1 ∧ signF (byteAt x (i + k)) ≠ 0
  · refine wp_cond_true ((h5.eval (k := 408) (v := .bool (decide (k = 1 ∧ signF (byteAt x (i + k)) ≠ 0))) (by simp)).trans (by rw [decide_eq_true hsg])) ?_
    refine fr_f88_wp hdc hsg.2 hp1 (fun a6 w6 h6 hp6 => ?_) a5 h5d
    refine fr_f83_wp (by omega) (fun a7 h7 => ?_) a6 h6
    obtain ⟨rfl, hs2⟩ := hsg
    exact ⟨q - 1, by omega, 2, _, by omega, fun _ => k1 (by omega), fun _ => ⟨hs2, rfl⟩, fun h => by omega, hp6, h7⟩
  · refine wp_cond_false ((h5.eval (k := 408) (v := .bool (decide (k = 1 ∧ signF (byteAt x (i + k)) ≠ 0))) (by simp)).trans (by rw [decide_eq_false hsg])) ?_
    refine fr_f433_wp (by omega) (by omega) hp1.z hp1.B (fun hbad => ?_) (fun hk1 hb a6 h6 => ?_) a5 h5d
    · refine hR 11 (i + k) ?_
      rw [← hfold]
      have hcs : k = 0 ∨ k = 1 ∨ k = 2 := by omega
      rcases hcs with rfl | rfl | rfl
      · exact foldF_par0.1 (by rcases hbad with h | h; omega; exact h)
      · exact foldF_par0.2.1 (k1 (by omega)) (by
          by_cases h : signF (byteAt x (i + 1)) = 0
          · exact h
          · exact absurd ⟨rfl, h⟩ hsg)
      · exact foldF_par0.2.2.1 (k1 (by omega)) (k2 (by omega)).1 (by rcases hbad with h | h; omega; exact h)
    · refine fr_f83_wp (by omega) (fun a7 h7 => ?_) a6 h6
      refine ⟨q - 1, by omega, k + 1, kd, by omega, fun _ => ?_, fun h => ?_, fun h => ?_, hp1, h7⟩
      · rcases Nat.lt_or_ge k 1 with h | h
        · obtain rfl : k = 0 := by omega
          exact hb
        · exact k1 h
      · exact k2 (by omega)
      · obtain rfl : k = 2 := by omega
        exact hb
noncomputable def c_fr_popl : Code := sub [1, 1, 1, 1, 1, 0, 0, 0, 1, 1, 1, 1, 1, 1, 1, 1, 0] (Tryd.f12.body.getD .skip)
set_option maxRecDepth 100000 in
set_option maxHeartbeats 4000000 in
theorem fr_popl_wp {Q : Exit → Act → World → Prop} {x : ByteArray} {w wi : World} {frs : List F5} {Aq : Option Addr} {cq i n D hi : Nat} {v : Fv} {dc : List Value} {R0 : Fr} (hx4 : x.size ≤ 4000) (hl : frs.length ≤ 40) (hix : i ≤ x.size) (hp : PopF w wi frs Aq cq D hi v dc) (hfold : foldF x (frs.map (·.f)) v i n = R0) (hR : ∀ c j : Nat, R0 = .bad c j → ∀ a' w', Frm 464 [(2, .pointer (some ⟨w.heap.size, 0, none⟩)), (3, .pointer (some ⟨w.heap.size + 1, 0, none⟩))] a' → w'.heap[w.heap.size]? = some (.cells #[.int .i64 0, .string ⟨#[]⟩, .slice none 0 0, .slice none 0 0] 34 (0, 0)) → w'.heap[w.heap.size + 1]? = some (.cells #[.int .i64 (c : Nat), .int .i64 (j : Nat)] 27 (0, 0)) → Below w.heap.size w w' → Q .ret a' w') (hM : ∀ (v : Fv) (i : Nat), R0 = .ok v i → i < x.size → ∀ a' w', Frm 464 [(2, .pointer (some ⟨w.heap.size, 0, none⟩)), (3, .pointer (some ⟨w.heap.size + 1, 0, none⟩))] a' → w'.heap[w.heap.size]? = some (.cells #[.int .i64 0, .string ⟨#[]⟩, .slice none 0 0, .slice none 0 0] 34 (0, 0)) → w'.heap[w.heap.size + 1]? = some (.cells #[.int .i64 11, .int .i64 (i : Nat)] 27 (0, 0)) → Below w.heap.size w w' → Q .ret a' w') (hG : ∀ (v : Fv) (i : Nat), R0 = .ok v i → ¬ i < x.size → ∀ (es : List Value) a' w', Frm 464 [(2, .pointer (some ⟨w.heap.size, 0, none⟩)), (3, .pointer (some ⟨w.heap.size + 1, 0, none⟩))] a' → w'.heap[w.heap.size]? = some (.cells es.toArray 34 (0, 0)) → w'.heap[w.heap.size + 1]? = some (.cells #[.int .i64 0, .int .i64 0] 27 (0, 0)) → Below w.heap.size w w' → fmRep.R w' (Fresh2 w w') v.fm es → Q .ret a' w')
    (hX : ∀ (i2 : Nat) (frs2 : List F5) (Aq2 : Option Addr) (cq2 : Nat) a' w', i < i2 → i2 ≤ x.size → frs2.length ≤ 40 → Frm 464 [(0, .string x), (2, .pointer (some ⟨w.heap.size, 0, none⟩)), (3, .pointer (some ⟨w.heap.size + 1, 0, none⟩)), (4, .pointer (some ⟨w.heap.size + 2, 0, none⟩)), (5, .slice Aq2 frs2.length cq2), (6, .int .i64 (i2 : Nat)), (7, .int .i64 (n : Nat))] a' → GMem w w' frs2 Aq2 cq2 w'.heap.size → runF x (frs2.map (·.f)) i2 n = R0 → Q (.exit 4) a' w') :
    ∀ ac, Frm 464 [(0, .string x), (2, .pointer (some ⟨w.heap.size, 0, none⟩)), (3, .pointer (some ⟨w.heap.size + 1, 0, none⟩)), (4, .pointer (some ⟨w.heap.size + 2, 0, none⟩)), (5, .slice Aq frs.length cq), (6, .int .i64 (i : Nat)), (7, .int .i64 (n : Nat)), (9, .pointer (some ⟨D, 0, none⟩))] ac → Code.wp Tryd.prog c_fr_popl Q ac wi := by
  intro a0 hf0
  conv => arg 2; whnf
  refine wp_loopR (fun k a' w' => ∃ (i2 : Nat) (frs2 : List F5) (Aq2 : Option Addr) (cq2 hi2 : Nat) (v2 : Fv) (dc2 : List Value), frs2.length = k ∧ i ≤ i2 ∧ i2 ≤ x.size ∧ frs2.length ≤ 40 ∧ PopF w w' frs2 Aq2 cq2 D hi2 v2 dc2 ∧ foldF x (frs2.map (·.f)) v2 i2 n = R0 ∧ Frm 464 [(0, .string x), (2, .pointer (some ⟨w.heap.size, 0, none⟩)), (3, .pointer (some ⟨w.heap.size + 1, 0, none⟩)), (4, .pointer (some ⟨w.heap.size + 2, 0, none⟩)), (5, .slice Aq2 frs2.length cq2), (6, .int .i64 (i2 : Nat)), (7, .int .i64 (n : Nat)), (9, .pointer (some ⟨D, 0, none⟩))] a') frs.length ⟨i, frs, Aq, cq, hi, v, dc, rfl, Nat.le_refl _, hix, hl, hp, hfold, hf0⟩ ?_
  rintro k a1 w1 ⟨i2, frs2, Aq2, cq2, hi2, v2, dc2, hk, hii, hix2, hl2, hp2, hfold2, hfr⟩
  refine wp_block ?_
  cases frs2 with
  | nil =>
    have hr0 : R0 = .ok v2 i2 := hfold2.symm
    refine wp_seq ?_
    refine fr_f331n_wp hp2 ?_ ?_ a1 hfr
    · exact hM v2 i2 hr0
    · exact hG v2 i2 hr0
  | cons p r =>
    obtain ⟨f, pa⟩ := p
    have hr40 : r.length + 1 ≤ 40 := hl2
    refine wp_seq ?_
    refine fr_f331c_wp (fun a2 h2 => ?_) a1 hfr
    refine wp_seq ?_
    refine fr_f75_wp (by omega) (fun a3 h3 => ?_) a2 h2
    refine wp_seq ?_
    refine Code.wp_mono (Q := Exit.then (fun a' w' => ∃ (g lo h cap : Nat) (dc3 : List Value), Aq2 = some ⟨g, 0, none⟩ ∧ dc3 = [dc3.getD 0 undef, dc3.getD 1 undef, dc3.getD 2 undef, dc3.getD 3 undef] ∧ Frm 464 [(0, .string x), (2, .pointer (some ⟨w.heap.size, 0, none⟩)), (3, .pointer (some ⟨w.heap.size + 1, 0, none⟩)), (4, .pointer (some ⟨w.heap.size + 2, 0, none⟩)), (5, .slice Aq2 (r.length + 1) cq2), (6, .int .i64 (i2 : Nat)), (7, .int .i64 (n : Nat)), (9, .pointer (some ⟨D, 0, none⟩)), (23, .int .i64 (r.length : Nat))] a' ∧ TopF w w' f r g cq2 D lo h cap v2 dc3 f.kind) (fun _ _ _ => False)) ?_ (fr_f76_wp (by omega) hp2 (fun g lo h cap dc3 a4 w4 e1 e2 e3 e4 => ⟨g, lo, h, cap, dc3, e1, e2, e3, e4⟩) a3 h3)
    intro e a4 w4 he
    cases e with
    | normal =>
      obtain ⟨g, lo, h, cap, dc3, rfl, hdc, hf4, htop⟩ := he
      show Code.wp _ _ _ a4 w4
      simp only [List.length_cons] at hk
      refine wp_seq ?_
      have hopen : ∀ v', f.closed = false → v'.fm = .mk ⟨f.kind, f.nm, []⟩ (f.kids ++ [v2.fm]) → foldF x (f :: r.map (·.f)) v2 i2 n = foldF x (r.map (·.f)) v' i2 n → ∀ (Q2 : Exit → Act → World → Prop), (∀ a' w', (∃ m, m < k ∧ ∃ (i2 : Nat) (frs2 : List F5) (Aq2 : Option Addr) (cq2 hi2 : Nat) (v2 : Fv) (dc2 : List Value), frs2.length = m ∧ i ≤ i2 ∧ i2 ≤ x.size ∧ frs2.length ≤ 40 ∧ PopF w w' frs2 Aq2 cq2 D hi2 v2 dc2 ∧ foldF x (frs2.map (·.f)) v2 i2 n = R0 ∧ Frm 464 [(0, .string x), (2, .pointer (some ⟨w.heap.size, 0, none⟩)), (3, .pointer (some ⟨w.heap.size + 1, 0, none⟩)), (4, .pointer (some ⟨w.heap.size + 2, 0, none⟩)), (5, .slice Aq2 frs2.length cq2), (6, .int .i64 (i2 : Nat)), (7, .int .i64 (n : Nat)), (9, .pointer (some ⟨D, 0, none⟩))] a') → Q2 (.exit 5) a' w') → Code.wp Tryd.prog c_fr_f363o Q2 a4 w4 := by
        intro v' hc hv hff Q2 hQ
        refine fr_f363o_wp (v' := v') hdc hc htop hv (fun dc6 a5 w5 h5 hp5 => hQ a5 w5 ?_) a4 hf4
        exact ⟨r.length, by omega, i2, r, some ⟨g, 0, none⟩, cq2, lo, v', dc6, rfl, hii, hix2, by omega, hp5, hff.symm.trans hfold2, h5⟩
      cases f with
      | neg =>
        refine hopen (.neg v2) rfl rfl rfl _ (fun a' w' h => ?_)
        refine fr_then (inBlock_exit ?_)
        exact h
      | qu q y =>
        refine hopen (.qu q y v2) rfl rfl rfl _ (fun a' w' h => ?_)
        refine fr_then (inBlock_exit ?_)
        exact h
      | par0 =>
        refine fr_f363c_wp hdc rfl htop (fun a5 h5 => ?_) a4 hf4
        show Code.wp _ _ _ a5 w4
        refine wp_seq ?_
        refine wp_seq ?_
        refine fr_f80_wp hdc htop (fun a6 h6 => ?_) a5 h5
        have h6d : Frm 464 [(0, .string x), (2, .pointer (some ⟨w.heap.size, 0, none⟩)), (3, .pointer (some ⟨w.heap.size + 1, 0, none⟩)), (4, .pointer (some ⟨w.heap.size + 2, 0, none⟩)), (5, .slice (some ⟨g, 0, none⟩) (r.length + 1) cq2), (6, .int .i64 (i2 : Nat)), (7, .int .i64 (n : Nat)), (9, .pointer (some ⟨D, 0, none⟩)), (23, .int .i64 (r.length : Nat))] a6 := have h := h6; ⟨h.1, h.2.1, h.2.2.1, h.2.2.2.1, h.2.2.2.2.1, h.2.2.2.2.2.1, h.2.2.2.2.2.2.1, h.2.2.2.2.2.2.2.1, h.2.2.2.2.2.2.2.2.1, h.2.2.2.2.2.2.2.2.2.1, h.2.2.2.2.2.2.2.2.2.2.1, trivial⟩
        refine wp_cond_true ((h6.eval (k := 379) (v := .bool (decide ((Ff.kids .par0).length = 0))) (by simp)).trans rfl) ?_
        refine wp_seq ?_
        refine wp_seq ?_
        refine fr_f81_wp (fun a7 h7 => ?_) a6 h6d
        refine wp_block ?_
        refine fr_sloop_wp (op := r.map (·.f)) (R0 := R0) hdc (by omega) htop hfold2 ?_ (fun b1 b2 b3 a8 w8 h8 hp8 => ?_) a7 h7
        · exact hR
        refine inBlock_exit ?_
        show Code.wp _ _ _ a8 w8
        refine fr_f95_wp (k := 3) (by omega) (fun a9 h9 => ?_) a8 h8
        have hb3 : i2 + 2 < x.size := byteAt_lt (by omega)
        refine (show Exit.then _ _ (.exit 4) a9 w8 from ?_)
        refine (show Exit.inBlock 5 _ (.exit 4) a9 w8 from inBlock_far (by decide) ?_)
        exact hX (i2 + 3) (⟨.par1 (signF (byteAt x (i2 + 1))) v2, .slice (some ⟨h, 0, none⟩) (0 + 1) cap⟩ :: r) (some ⟨g, 0, none⟩) cq2 a9 w8 (by omega) (by omega) hr40 h9 hp8.par1 ((foldF_par0.2.2.2 b1 b2 b3).symm.trans hfold2)
      | par1 q fv =>
        refine fr_f363c_wp hdc rfl htop (fun a5 h5 => ?_) a4 hf4
        show Code.wp _ _ _ a5 w4
        refine wp_seq ?_
        refine wp_seq ?_
        refine fr_f80_wp hdc htop (fun a6 h6 => ?_) a5 h5
        have h6d : Frm 464 [(0, .string x), (2, .pointer (some ⟨w.heap.size, 0, none⟩)), (3, .pointer (some ⟨w.heap.size + 1, 0, none⟩)), (4, .pointer (some ⟨w.heap.size + 2, 0, none⟩)), (5, .slice (some ⟨g, 0, none⟩) (r.length + 1) cq2), (6, .int .i64 (i2 : Nat)), (7, .int .i64 (n : Nat)), (9, .pointer (some ⟨D, 0, none⟩)), (23, .int .i64 (r.length : Nat))] a6 := have h := h6; ⟨h.1, h.2.1, h.2.2.1, h.2.2.2.1, h.2.2.2.2.1, h.2.2.2.2.2.1, h.2.2.2.2.2.2.1, h.2.2.2.2.2.2.2.1, h.2.2.2.2.2.2.2.2.1, h.2.2.2.2.2.2.2.2.2.1, h.2.2.2.2.2.2.2.2.2.2.1, trivial⟩
        refine wp_cond_false ((h6.eval (k := 379) (v := .bool (decide ((Ff.kids (.par1 q fv)).length = 0))) (by simp)).trans (by rw [decide_eq_false (by simp [Ff.kids])])) ?_
        refine wp_skip ?_
        show Code.wp _ _ _ a6 w4
        refine wp_seq ?_
        refine fr_f450_wp (by omega) htop.z htop.B (fun hb => ?_) (fun hb a7 h7 => ?_) a6 h6d
        · exact hR 11 i2 (hfold2.symm.trans (foldF_par1.2 hb))
        refine wp_seq ?_
        refine fr_f98_wp (by omega) (fun a8 h8 => ?_) a7 h7
        refine fr_f99_wp (f := .par1 q fv) (v' := .bin q fv v2) hdc htop rfl (fun dc6 a9 w9 h9 hp9 => ?_) a8 h8
        have hb3 : i2 < x.size := byteAt_lt (by omega)
        exact ⟨r.length, by omega, i2 + 1, r, some ⟨g, 0, none⟩, cq2, lo, .bin q fv v2, dc6, rfl, by omega, by omega, by omega, hp9, (foldF_par1.1 hb).symm.trans hfold2, h9⟩
    | _ => exact he.elim

end Go.Proofs.YtnoceodmnjhljabDoor
