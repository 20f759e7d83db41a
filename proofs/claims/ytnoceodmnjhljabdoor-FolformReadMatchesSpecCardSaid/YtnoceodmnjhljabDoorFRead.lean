/-
  The reference's FormRead: the walk, joined out of its parts.
-/
import Derived.Test.YtnoceodmnjhljabDoorFrI
import Derived.Test.YtnoceodmnjhljabDoorFrG
import Derived.Deep.DeepCutAuto
import Derived.Deep.RegionLaw
import Derived.BigQuiet
namespace Go.Proofs.YtnoceodmnjhljabDoor
open Go Go.RowKit
set_option linter.unusedSimpArgs false
set_option linter.unusedVariables false

theorem sameF_n {x : ByteArray} {i n : Nat} {v : Fv} {j m : Nat} (h : sameF x i n = some (.ok v j m)) : m = n := by
  unfold sameF at h
  split at h
  · cases h
  · split at h
    · simp only [Option.some.injEq] at h
      split at h
      · cases h
      · split at h
        · cases h
        · injection h with _ _ h3; exact h3.symm
    · split at h
      · cases h
      · injection h with h; cases h
theorem atomF_n {x : ByteArray} {i n : Nat} {v : Fv} {j m : Nat} (h : atomF x i n = some (.ok v j m)) : m = n := by
  unfold atomF at h
  split at h
  · simp only [Option.some.injEq] at h
    split at h
    · cases h
    · injection h with _ _ h3; exact h3.symm
  · split at h
    · injection h with h; injection h with _ _ h3; exact h3.symm
    · split at h
      · split at h
        · injection h with h; cases h
        · split at h
          · injection h with h; cases h
          · cases h
      · injection h with h; cases h
noncomputable def c_fr_loop : Code := sub [1, 1, 1, 1, 1, 0] (Tryd.f12.body.getD .skip)
set_option maxRecDepth 100000 in
set_option maxHeartbeats 4000000 in
theorem fr_loop_wp {Q : Exit → Act → World → Prop} {x : ByteArray} {w wi : World} {R0 : Fr} (hx4 : x.size ≤ 4000) (hz : (wi.heap[w.heap.size]? = some (.cells #[.int .i64 0, .string ⟨#[]⟩, .slice none 0 0, .slice none 0 0] 34 (0, 0)) ∧ wi.heap[w.heap.size + 1]? = some (.cells #[.int .i64 0, .int .i64 0] 27 (0, 0)) ∧ wi.heap[w.heap.size + 2]? = some (.cells #[.int .i64 0, .string ⟨#[]⟩, .slice none 0 0, .slice none 0 0] 34 (0, 0)))) (hB : Below w.heap.size w wi) (hsz : w.heap.size + 3 ≤ wi.heap.size) (hR0 : runF x [] 0 0 = R0) (hR : ∀ c j : Nat, R0 = .bad c j → ∀ a' w', Frm 464 [(2, .pointer (some ⟨w.heap.size, 0, none⟩)), (3, .pointer (some ⟨w.heap.size + 1, 0, none⟩))] a' → w'.heap[w.heap.size]? = some (.cells #[.int .i64 0, .string ⟨#[]⟩, .slice none 0 0, .slice none 0 0] 34 (0, 0)) → w'.heap[w.heap.size + 1]? = some (.cells #[.int .i64 (c : Nat), .int .i64 (j : Nat)] 27 (0, 0)) → Below w.heap.size w w' → Q .ret a' w') (hM : ∀ (v : Fv) (i : Nat), R0 = .ok v i → i < x.size → ∀ a' w', Frm 464 [(2, .pointer (some ⟨w.heap.size, 0, none⟩)), (3, .pointer (some ⟨w.heap.size + 1, 0, none⟩))] a' → w'.heap[w.heap.size]? = some (.cells #[.int .i64 0, .string ⟨#[]⟩, .slice none 0 0, .slice none 0 0] 34 (0, 0)) → w'.heap[w.heap.size + 1]? = some (.cells #[.int .i64 11, .int .i64 (i : Nat)] 27 (0, 0)) → Below w.heap.size w w' → Q .ret a' w') (hG : ∀ (v : Fv) (i : Nat), R0 = .ok v i → ¬ i < x.size → ∀ (es : List Value) a' w', Frm 464 [(2, .pointer (some ⟨w.heap.size, 0, none⟩)), (3, .pointer (some ⟨w.heap.size + 1, 0, none⟩))] a' → w'.heap[w.heap.size]? = some (.cells es.toArray 34 (0, 0)) → w'.heap[w.heap.size + 1]? = some (.cells #[.int .i64 0, .int .i64 0] 27 (0, 0)) → Below w.heap.size w w' → fmRep.R w' (Fresh2 w w') v.fm es → Q .ret a' w') :
    ∀ ac, Frm 464 [(0, .string x), (2, .pointer (some ⟨w.heap.size, 0, none⟩)), (3, .pointer (some ⟨w.heap.size + 1, 0, none⟩)), (4, .pointer (some ⟨w.heap.size + 2, 0, none⟩)), (5, .slice none 0 0), (6, .int .i64 (0 : Nat)), (7, .int .i64 (0 : Nat))] ac → Code.wp Tryd.prog c_fr_loop Q ac wi := by
  intro a0 hf0
  conv => arg 2; whnf
  refine wp_loopR (fun k a' w' => ∃ (i n : Nat) (frs : List F5) (Aq : Option Addr) (cq : Nat), i + k = x.size ∧ n ≤ 200 ∧ frs.length ≤ 40 ∧ GMem w w' frs Aq cq w'.heap.size ∧ runF x (frs.map (·.f)) i n = R0 ∧ Frm 464 [(0, .string x), (2, .pointer (some ⟨w.heap.size, 0, none⟩)), (3, .pointer (some ⟨w.heap.size + 1, 0, none⟩)), (4, .pointer (some ⟨w.heap.size + 2, 0, none⟩)), (5, .slice Aq frs.length cq), (6, .int .i64 (i : Nat)), (7, .int .i64 (n : Nat))] a') x.size ⟨0, 0, [], none, 0, by omega, by omega, by simp, ⟨World.ownsRow_nil _ _ _ _, by simpa [GsOk] using hsz, hz, hB⟩, hR0, hf0⟩ ?_
  rintro k a1 wr ⟨i, n, frs, Aq, cq, hk, hn, hl, hm, hrun, hfr⟩
  refine wp_block ?_
  refine wp_seq ?_
  refine fr_f6_wp (fun a2 h2 => ?_) a1 hfr
  refine wp_seq ?_
  refine fr_f35_wp (fun a3 h3 => ?_) a2 h2
  obtain ⟨b, hb⟩ : ∃ b, byteAt x i = b := ⟨_, rfl⟩
  rw [hb] at h3
  refine wp_seq ?_
  refine fr_f52_wp hm.z hm.B (fun hs => ?_) (fun hst a4 h4 => ?_) a3 h3
  · exact hR 11 i (hrun.symm.trans (runF_none (by rw [hb]; exact hs)))
  have hi : i < x.size := byteAt_lt (by rw [hb]; unfold startF at hst; omega)
  refine wp_seq ?_
  refine fr_f11_wp (by omega) (fun a5 h5 => ?_) a4 h4
  refine wp_seq ?_
  refine fr_f64_wp hm.z hm.B (fun hs => ?_) (fun hs a6 h6 => ?_) a5 h5
  · exact hR 1 i (hrun.symm.trans (runF_much (by rw [hb]; exact hst) (by simpa using hs)))
  have hlim : ¬ (200 < n + 1 ∨ 40 ≤ (frs.map (·.f)).length) := by simpa using hs
  have hn2 : n + 1 ≤ 200 := by omega
  have hl39 : frs.length ≤ 39 := by omega
  refine wp_seq ?_
  refine fr_f14_wp (fun a7 h7 => ?_) a6 h6
  obtain ⟨wo, hwo⟩ : ∃ wo, wr.alloc (.cells #[.int .i64 0, .string ⟨#[]⟩, .slice none 0 0, .slice none 0 0] 34 (0, 0)) = wo := ⟨_, rfl⟩
  obtain ⟨D, hD⟩ : ∃ D, wr.heap.size = D := ⟨_, rfl⟩
  have hbz := GsOk.base hm.fs
  have hblk : ∀ b, (Value.slice Aq frs.length cq).ownBlock = some b → w.heap.size + 3 ≤ b ∧ b < D := by rw [← hD]; exact hm.own.lt
  have hmo : GMem w wo frs Aq cq D := by
    rw [← hwo, ← hD]
    exact ⟨hm.own.alloc _, hm.fs.keep (fun b h1 h2 h3 => heap_old h2 rfl) (fun _ _ e => e) (Nat.le_refl _), ⟨heap_old (by omega) hm.z.1, heap_old (by omega) hm.z.2.1, heap_old (by omega) hm.z.2.2⟩, hm.B.alloc (by omega) _⟩
  have hDo : D < wo.heap.size := by rw [← hwo, ← hD]; simp
  have hdo : wo.heap[D]? = some (.cells #[.int .i64 0, .string ⟨#[]⟩, .slice none 0 0, .slice none 0 0] 34 (0, 0)) := by rw [← hwo, ← hD]; exact heap_at rfl
  rw [hD] at h7
  rw [hwo]
  clear hwo hm hfr h2 h3 h4 h5 h6
  show Code.wp _ _ _ a7 wo
  refine wp_seq ?_
  refine fr_f69_wp hx4 (by omega) hl39 hmo hDo hblk (fun hb45 gg cap a8 w8 h8 hm8 => ?_) (fun hb45 a8 h8 => ?_) a7 h7
  · refine fr_then (inBlock_exit ?_)
    exact ⟨k - 1, by omega, i + 1, n + 1, _, _, _, by omega, hn2, by simp; omega, hm8, (hrun.symm.trans (runF_neg (by rw [hb]; exact hb45) hlim)).symm, h8⟩
  refine wp_seq ?_
  have hpop : ∀ (i2 : Nat) (v : Fv) (dc : List Value) (a8 : Act) (w8 : World), i ≤ i2 → i2 ≤ x.size → Frm 464 [(0, .string x), (2, .pointer (some ⟨w.heap.size, 0, none⟩)), (3, .pointer (some ⟨w.heap.size + 1, 0, none⟩)), (4, .pointer (some ⟨w.heap.size + 2, 0, none⟩)), (5, .slice Aq frs.length cq), (6, .int .i64 (i2 : Nat)), (7, .int .i64 (n + 1 : Nat)), (9, .pointer (some ⟨D, 0, none⟩))] a8 → LeafF w wo w8 frs Aq cq D v dc → foldF x (frs.map (·.f)) v i2 (n + 1) = R0 →
      Code.wp Tryd.prog (Code.block 4 c_fr_popl) (Exit.inBlock 1 (Exit.then (fun a' w' => ∃ m, m < k ∧ (fun k a' w' => ∃ (i n : Nat) (frs : List F5) (Aq : Option Addr) (cq : Nat), i + k = x.size ∧ n ≤ 200 ∧ frs.length ≤ 40 ∧ GMem w w' frs Aq cq w'.heap.size ∧ runF x (frs.map (·.f)) i n = R0 ∧ Frm 464 [(0, .string x), (2, .pointer (some ⟨w.heap.size, 0, none⟩)), (3, .pointer (some ⟨w.heap.size + 1, 0, none⟩)), (4, .pointer (some ⟨w.heap.size + 2, 0, none⟩)), (5, .slice Aq frs.length cq), (6, .int .i64 (i : Nat)), (7, .int .i64 (n : Nat))] a') m a' w') Q)) a8 w8 := by
    intro i2 v dc a8 w8 hii hix h8 hlf hfold
    refine wp_block ?_
    have hbz2 := GsOk.base hlf.m.fs
    refine fr_popl_wp (Aq := Aq) (R0 := R0) hx4 (by omega) hix ⟨hlf.m, Nat.le_refl _, by have := hlf.le; omega, hlf.d, fmRep.keep hlf.r (fun _ _ => rfl) (fun b hb => ⟨by omega, hb.2, fun e => by have := (hblk b e).2; omega, by omega⟩), fun q e => (hblk q e).2⟩ hfold ?_ ?_ ?_ ?_ a8 h8
    · exact hR
    · exact hM
    · exact hG
    · intro i3 frs2 Aq2 cq2 a9 w9 h1 h2 h3 h4 h5 h6
      refine inBlock_exit ?_
      exact ⟨x.size - i3, by omega, i3, n + 1, frs2, Aq2, cq2, by omega, hn2, h3, h5, h6, h4⟩
  refine wp_seq ?_
  refine fr_f18_wp (fun a9 h9 => ?_) a8 h8
  have h9d : Frm 464 [(0, .string x), (2, .pointer (some ⟨w.heap.size, 0, none⟩)), (3, .pointer (some ⟨w.heap.size + 1, 0, none⟩)), (4, .pointer (some ⟨w.heap.size + 2, 0, none⟩)), (5, .slice Aq frs.length cq), (6, .int .i64 (i : Nat)), (7, .int .i64 (n + 1 : Nat)), (8, .int .u8 (b : Nat)), (9, .pointer (some ⟨D, 0, none⟩))] a9 := have h := h9; ⟨h.1, h.2.1, h.2.2.1, h.2.2.2.1, h.2.2.2.2.1, h.2.2.2.2.2.1, h.2.2.2.2.2.2.1, h.2.2.2.2.2.2.2.1, h.2.2.2.2.2.2.2.2.1, h.2.2.2.2.2.2.2.2.2.1, h.2.2.2.2.2.2.2.2.2.2.1, trivial⟩
  by_cases hb40 : b = 40
  · refine wp_cond_true ((h9.eval (k := 78) (v := .bool (decide (b = 40))) (by simp)).trans (by rw [decide_eq_true hb40])) ?_
    obtain ⟨e1, e2, e3⟩ := runF_par (by rw [hb]; exact hb40) hlim (op := frs.map (·.f))
    refine fr_par_wp hx4 hi hl39 hmo hDo hblk hdo (fun c j hj => ?_) (fun v j m hj hj1 hj2 dc a10 w10 h10 hlf => ?_) (fun hj gg cap a10 w10 h10 hm10 => ?_) a9 h9d
    · exact hR c j (hrun.symm.trans (e1 c j hj))
    · have hmn : m = n + 1 := sameF_n hj
      subst hmn
      have h10d : Frm 464 [(0, .string x), (2, .pointer (some ⟨w.heap.size, 0, none⟩)), (3, .pointer (some ⟨w.heap.size + 1, 0, none⟩)), (4, .pointer (some ⟨w.heap.size + 2, 0, none⟩)), (5, .slice Aq frs.length cq), (6, .int .i64 (j : Nat)), (7, .int .i64 (n + 1 : Nat)), (9, .pointer (some ⟨D, 0, none⟩))] a10 := have h := h10; ⟨h.1, h.2.1, h.2.2.1, h.2.2.2.1, h.2.2.2.2.1, h.2.2.2.2.2.1, h.2.2.2.2.2.2.1, h.2.2.2.2.2.2.2.1, h.2.2.2.2.2.2.2.2.1, h.2.2.2.2.2.2.2.2.2.2.1, trivial⟩
      exact hpop j v dc a10 w10 (by omega) hj1 h10d hlf ((e2 v j _ hj).symm.trans hrun)
    · refine fr_then (inBlock_exit ?_)
      exact ⟨k - 1, by omega, i + 1, n + 1, _, _, _, by omega, hn2, by simp; omega, hm10, (hrun.symm.trans (e3 hj)).symm, h10⟩
  · refine wp_cond_false ((h9.eval (k := 78) (v := .bool (decide (b = 40))) (by simp)).trans (by rw [decide_eq_false hb40])) ?_
    have hlow : 97 ≤ byteAt x i ∧ byteAt x i ≤ 122 := by rw [hb]; unfold startF at hst; omega
    obtain ⟨e1, e2, e3⟩ := runF_name hlow hlim (op := frs.map (·.f))
    refine fr_nam_wp hx4 hi hl39 hmo hDo hblk hdo (fun c j hj => ?_) (fun v j m hj hj1 hj2 dc a10 w10 h10 hlf => ?_) (fun hj hj1 hj2 gg cap a10 w10 h10 hm10 => ?_) a9 h9d
    · exact hR c j (hrun.symm.trans (e1 c j hj))
    · have hmn : m = n + 1 := atomF_n hj
      subst hmn
      have h10d : Frm 464 [(0, .string x), (2, .pointer (some ⟨w.heap.size, 0, none⟩)), (3, .pointer (some ⟨w.heap.size + 1, 0, none⟩)), (4, .pointer (some ⟨w.heap.size + 2, 0, none⟩)), (5, .slice Aq frs.length cq), (6, .int .i64 (j : Nat)), (7, .int .i64 (n + 1 : Nat)), (9, .pointer (some ⟨D, 0, none⟩))] a10 := have h := h10; ⟨h.1, h.2.1, h.2.2.1, h.2.2.2.1, h.2.2.2.2.1, h.2.2.2.2.2.1, h.2.2.2.2.2.2.1, h.2.2.2.2.2.2.2.1, h.2.2.2.2.2.2.2.2.1, h.2.2.2.2.2.2.2.2.2.2.1, trivial⟩
      exact hpop j v dc a10 w10 hj2 hj1 h10d hlf ((e2 v j _ hj).symm.trans hrun)
    · refine fr_then (inBlock_exit ?_)
      exact ⟨x.size - quI x i, by omega, quI x i, n + 1, _, _, _, by omega, hn2, by simp; omega, hm10, (hrun.symm.trans (e3 hj)).symm, h10⟩
set_option maxRecDepth 1000000 in
theorem fr_ret_wp {R : Ending → World → Prop} {w w' : World} {e0 e1 e2 e3 : Value} {c j : Int} (h0 : w'.heap[w.heap.size]? = some (.cells #[e0, e1, e2, e3] 34 (0, 0))) (h1 : w'.heap[w.heap.size + 1]? = some (.cells #[.int .i64 c, .int .i64 j] 27 (0, 0))) (hR : R (.returned (.tuple #[.agg #[e0, e1, e2, e3], .agg #[.int .i64 c, .int .i64 j]])) w') :
    ∀ ac, Frm 464 [(2, .pointer (some ⟨w.heap.size, 0, none⟩)), (3, .pointer (some ⟨w.heap.size + 1, 0, none⟩))] ac → bodyPost Tryd.prog Tryd.f12 R .ret ac w' := by
  refine frm_open ?_
  refine frame_fr ?_
  intros
  rename_i hq
  obtain ⟨-, -, e0q, e1q, -⟩ := hq
  have e0q := (Option.some.inj e0q).symm; subst e0q
  have e1q := (Option.some.inj e1q).symm; subst e1q
  have h0_0 := cv0 h0
  have h0_1 := cv1 h0
  have h0_2 := cv2 h0
  have h0_3 := cv3 h0
  have h0_l := lt_heap h0
  have H0 := Lib.hid h0
  clear h0
  have h1_0 := cv0 h1
  have h1_1 := cv1 h1
  have h1_l := lt_heap h1
  have H1 := Lib.hid h1
  clear h1
  refine bodyPost_ret (v := .tuple #[.agg #[e0, e1, e2, e3], .agg #[.int .i64 c, .int .i64 j]]) (by simp [results, Tryd.results12, go_sem, h0_0, h0_1, h0_2, h0_3, h0_l, h1_0, h1_1, h1_l]) rfl ?_
  exact hR
/-- What FormRead leaves. -/
def FReadAt (x : ByteArray) (w : World) (e : Ending) (w' : World) : Prop :=
  ∃ es : List Value, e = .returned (.tuple #[.agg es.toArray, .agg #[.int .i64 ((fpC x).1 : Nat), .int .i64 ((fpC x).2 : Nat)]]) ∧ fmRep.R w' (Fresh2 w w') (fpF x) es ∧ Below w.heap.size w w'
set_option maxRecDepth 100000 in
set_option maxHeartbeats 8000000 in
theorem formRead_any (x : ByteArray) (w : World) (hx : x.size ≤ maxLen) : Calls Tryd.prog 12 #[.string x] w (FReadAt x w) := by
  unfold maxLen at hx
  by_cases hl : 4000 < x.size
  · have hF : ∀ w', Below w.heap.size w w' → FReadAt x w (.returned (.tuple #[.agg #[.int .i64 0, .string ⟨#[]⟩, .slice none 0 0, .slice none 0 0], .agg #[.int .i64 1, .int .i64 0]])) w' := by
      intro w' h
      unfold FReadAt fpC fpF
      rw [if_pos hl, if_pos hl]
      exact ⟨_, rfl, fmZ_rep, h⟩
    have HF := Lib.hid hF
    clear hF
    go_enter Tryd.func12, Tryd.ntmps12
    go_wp2_with fail
    refine bodyPost_ret (v := .tuple #[.agg #[.int .i64 0, .string ⟨#[]⟩, .slice none 0 0, .slice none 0 0], .agg #[.int .i64 1, .int .i64 0]]) (by simp [results, Tryd.results12, go_sem]) rfl ?_
    exact HF.out _ (by go_grown)
  have hx4 : x.size ≤ 4000 := by omega
  obtain ⟨R0, hR0⟩ : ∃ R, runF x [] 0 0 = R := ⟨_, rfl⟩
  have hbad : ∀ (c j : Nat), R0 = .bad c j → ∀ w', Below w.heap.size w w' → FReadAt x w (.returned (.tuple #[.agg #[.int .i64 0, .string ⟨#[]⟩, .slice none 0 0, .slice none 0 0], .agg #[.int .i64 (c : Nat), .int .i64 (j : Nat)]])) w' := by
    rintro c j rfl w' h
    unfold FReadAt fpC fpF
    rw [if_neg hl, if_neg hl, hR0]
    exact ⟨_, rfl, fmZ_rep, h⟩
  have hmore : ∀ (v : Fv) (i : Nat), R0 = .ok v i → i < x.size → ∀ w', Below w.heap.size w w' → FReadAt x w (.returned (.tuple #[.agg #[.int .i64 0, .string ⟨#[]⟩, .slice none 0 0, .slice none 0 0], .agg #[.int .i64 11, .int .i64 (i : Nat)]])) w' := by
    rintro v i rfl hi w' h
    unfold FReadAt fpC fpF
    rw [if_neg hl, if_neg hl, hR0]
    simp only [if_pos hi]
    exact ⟨_, rfl, fmZ_rep, h⟩
  have hgood : ∀ (v : Fv) (i : Nat), R0 = .ok v i → ¬ i < x.size → ∀ (es : List Value) (w' : World), fmRep.R w' (Fresh2 w w') v.fm es → Below w.heap.size w w' → FReadAt x w (.returned (.tuple #[.agg es.toArray, .agg #[.int .i64 0, .int .i64 0]])) w' := by
    rintro v i rfl hi es w' h1 h2
    unfold FReadAt fpC fpF
    rw [if_neg hl, if_neg hl, hR0]
    simp only [if_neg hi]
    exact ⟨_, rfl, h1, h2⟩
  have HBAD := Lib.hid hbad
  have HMORE := Lib.hid hmore
  have HGOOD := Lib.hid hgood
  clear hbad hmore hgood
  go_enter Tryd.func12, Tryd.ntmps12
  go_wp2_with fail
  refine fr_loop_wp (w := w) (R0 := R0) hx4 ⟨heap_old (by simp; omega) (heap_old (by simp) (heap_at rfl)), heap_old (by simp) (heap_at (by simp)), heap_at (by simp)⟩ (by go_grown) (by simp) hR0 ?_ ?_ ?_ _ (id ⟨rfl, rfl, rfl, rfl, rfl, rfl, rfl, rfl, rfl, trivial⟩)
  · intro c j e a' w' hf h0 h1 hw
    exact fr_ret_wp h0 h1 (HBAD.out c j e w' hw) a' hf
  · intro v i e hi a' w' hf h0 h1 hw
    exact fr_ret_wp h0 h1 (HMORE.out v i e hi w' hw) a' hf
  · intro v i e hi es a' w' hf h0 h1 hw hr
    obtain ⟨A1, n1, c1, B1, m1, d1, rfl, _⟩ := Fm.shape hr
    exact fr_ret_wp h0 h1 (HGOOD.out v i e hi _ w' hr hw) a' hf

end Go.Proofs.YtnoceodmnjhljabDoor
