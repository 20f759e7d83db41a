/-
  FormRead by parts: a parenthesis, a name, joined.
-/
import Derived.Test.YtnoceodmnjhljabDoorFrD
import Derived.Test.YtnoceodmnjhljabDoorFrA
import Derived.Deep.DeepCutAuto
import Derived.Deep.RegionLaw
import Derived.BigQuiet
namespace Go.Proofs.YtnoceodmnjhljabDoor
open Go Go.RowKit
set_option linter.unusedSimpArgs false
set_option linter.unusedVariables false

noncomputable def c_fr_f33t : Code := sub [1, 1, 1, 1, 1, 0, 0, 0, 1, 1, 1, 1, 1, 1, 1, 0, 1, 0, 1, 1, 0, 1, 0, 1, 1, 1, 1, 0, 1, 1, 1, 1] (Tryd.f12.body.getD .skip)
set_option maxRecDepth 1000000 in
set_option maxHeartbeats 16000000 in
theorem fr_f33t_wp {Q : Exit → Act → World → Prop} {x : ByteArray} {w : World} {frs : List F5} {Aq : Option Addr} {cq i n b D : Nat} {a : ByteArray} {e e2 : Nat} {a2 : ByteArray} {wo : World} (hm : GMem w wo frs Aq cq (D)) (hD : D < wo.heap.size) (hblk : ∀ b, (Value.slice Aq frs.length cq).ownBlock = some b → w.heap.size + 3 ≤ b ∧ b < D) (hd : wo.heap[D]? = some (.cells #[.int .i64 0, .string ⟨#[]⟩, .slice none 0 0, .slice none 0 0] 34 (0, 0))) (h4 : e2 ≤ 9000) (ha : a.size ≤ maxLen) (ha2 : a2.size ≤ maxLen) (hN : ∀ dc a' wx, Frm 464 [(0, .string x), (2, .pointer (some ⟨w.heap.size, 0, none⟩)), (3, .pointer (some ⟨w.heap.size + 1, 0, none⟩)), (4, .pointer (some ⟨w.heap.size + 2, 0, none⟩)), (5, .slice Aq frs.length cq), (6, .int .i64 (e2 + 1 : Nat)), (7, .int .i64 (n : Nat)), (8, .int .u8 (b : Nat)), (9, .pointer (some ⟨D, 0, none⟩))] a' → LeafF w wo wx frs Aq cq D (.same a a2) dc → Q .normal a' wx) : ∀ ac, Frm 464 [(0, .string x), (2, .pointer (some ⟨w.heap.size, 0, none⟩)), (3, .pointer (some ⟨w.heap.size + 1, 0, none⟩)), (4, .pointer (some ⟨w.heap.size + 2, 0, none⟩)), (5, .slice Aq frs.length cq), (6, .int .i64 (i : Nat)), (7, .int .i64 (n : Nat)), (8, .int .u8 (b : Nat)), (9, .pointer (some ⟨D, 0, none⟩)), (10, .string a), (11, .int .i64 (e : Nat)), (14, .string a2), (15, .int .i64 (e2 : Nat))] ac → Code.wp Tryd.prog c_fr_f33t Q ac wo := by
  refine frm_open ?_
  refine frame_fr ?_
  intros
  rename_i hq
  obtain ⟨-, -, e0q, e1q, e2q, e3q, e4q, e5q, e6q, e7q, e8q, e9q, e10q, e11q, e12q, -⟩ := hq
  have e0q := (Option.some.inj e0q).symm; subst e0q
  have e1q := (Option.some.inj e1q).symm; subst e1q
  have e2q := (Option.some.inj e2q).symm; subst e2q
  have e3q := (Option.some.inj e3q).symm; subst e3q
  have e4q := (Option.some.inj e4q).symm; subst e4q
  have e5q := (Option.some.inj e5q).symm; subst e5q
  have e6q := (Option.some.inj e6q).symm; subst e6q
  have e7q := (Option.some.inj e7q).symm; subst e7q
  have e8q := (Option.some.inj e8q).symm; subst e8q
  have e9q := (Option.some.inj e9q).symm; subst e9q
  have e10q := (Option.some.inj e10q).symm; subst e10q
  have e11q := (Option.some.inj e11q).symm; subst e11q
  have e12q := (Option.some.inj e12q).symm; subst e12q
  conv => arg 2; whnf
  have HN := Lib.hid hN
  clear hN
  have hbz := GsOk.base hm.fs
  obtain ⟨hown, hfrs, ⟨pz, pf, pn⟩, hB⟩ := hm
  have HOWN := Lib.hid hown
  have HFRS := Lib.hid hfrs
  have HB := Lib.hid hB
  have HBLK := Lib.hid hblk
  clear hown hfrs hB hblk
  have pz_0 := cv0 pz
  have pz_1 := cv1 pz
  have pz_2 := cv2 pz
  have pz_3 := cv3 pz
  have pz_f0 := free_heap pz 0
  have pz_f1 := free_heap pz 1
  have pz_f2 := free_heap pz 2
  have pz_f3 := free_heap pz 3
  have pz_l := lt_heap pz
  have PZ := Lib.hid pz
  clear pz
  have pf_0 := cv0 pf
  have pf_1 := cv1 pf
  have pf_f0 := free_heap pf 0
  have pf_f1 := free_heap pf 1
  have pf_l := lt_heap pf
  have PF := Lib.hid pf
  clear pf
  have pn_0 := cv0 pn
  have pn_1 := cv1 pn
  have pn_2 := cv2 pn
  have pn_3 := cv3 pn
  have pn_l := lt_heap pn
  have PN := Lib.hid pn
  clear pn
  have pd := hd
  clear hd
  have pd_0 := cv0 pd
  have pd_1 := cv1 pd
  have pd_2 := cv2 pd
  have pd_3 := cv3 pd
  have pd_f0 := free_heap pd 0
  have pd_f1 := free_heap pd 1
  have pd_f2 := free_heap pd 2
  have pd_f3 := free_heap pd 3
  have pd_l := lt_heap pd
  have PD := Lib.hid pd
  clear pd
  have hDs : D < wo.heap.size + 1 := by omega
  have hwE : (e2 : Int) + 1 = ((e2 + 1 : Nat) : Int) := by omega
  have HWE := Lib.hid hwE
  clear hwE
  go_wp2_with fail
  rw [HWE.out]
  have hnD : (Value.slice Aq frs.length cq).ownBlock ≠ some D := fun e => by have := (HBLK.out D e).2; omega
  refine gen_last (fun wx => LeafF w wo wx frs Aq cq D (.same a a2) [.int .i64 3, .string ⟨#[]⟩, .slice (some ⟨wo.heap.size, 0, none⟩) 2 2, .slice none 0 0]) ?_ (fun wx h9 => by exact HN.out _ _ wx (id ⟨rfl, rfl, rfl, rfl, rfl, rfl, rfl, rfl, rfl, rfl, rfl, trivial⟩) h9)
  refine ⟨⟨(oth4 (i := 0) hnD HOWN.out).alloc _, HFRS.out.keep (fun b h1 h2 h3 => heap_old (lt4 (by omega)) (far4 (by omega) rfl)) (fun _ _ e => e) (Nat.le_refl _), ⟨heap_old (lt4 (by omega)) (far4 (by omega) PZ.out), heap_old (lt4 (by omega)) (far4 (by omega) PF.out), heap_old (lt4 (by omega)) (far4 (by omega) PN.out)⟩, (below4 HB.out (by omega)).alloc (le4 (by omega)) _⟩, heap_old (lt4 (by omega)) (at4 PD.out), ?_, by rw [World.size_alloc]; exact Nat.le_succ_of_le (le4 (Nat.le_refl _))⟩
  refine Fm.shut (a := ⟨3, ⟨#[]⟩, [a, a2]⟩) (l := []) (show (⟨#[]⟩ : ByteArray).size ≤ maxLen by decide +kernel) ?_ Rep.Sl.nil
  exact ⟨_, 2, 2, rfl, rfl, by unfold maxLen; simp, fun _ => ⟨wo.heap.size, 0, [.string a, .string a2], rfl, ⟨Nat.le_refl _, by rw [World.size_alloc]; exact Nat.lt_succ_of_le (le4 (Nat.le_refl _))⟩, ⟨[.string a], [.string a2], rfl, ⟨rfl, ha⟩, ⟨[.string a2], [], rfl, ⟨rfl, ha2⟩, rfl⟩⟩, fun j u hj => by rw [Nat.zero_add]; exact cell_heap (heap_at size4.symm) (by simpa using hj)⟩⟩
noncomputable def c_fr_par : Code := sub [1, 1, 1, 1, 1, 0, 0, 0, 1, 1, 1, 1, 1, 1, 1, 0, 1, 0] (Tryd.f12.body.getD .skip)
theorem isKey_dec {a : ByteArray} {b : Bool} (h : decide (isKey a) = b) : (b = true → isKey a) ∧ (b = false → ¬ isKey a) := by
  subst h; exact ⟨of_decide_eq_true, of_decide_eq_false⟩
set_option maxRecDepth 100000 in
set_option maxHeartbeats 4000000 in
theorem fr_par_wp {Q : Exit → Act → World → Prop} {x : ByteArray} {w : World} {frs : List F5} {Aq : Option Addr} {cq i n b D : Nat} {wo : World} (hx4 : x.size ≤ 4000) (hi : i < x.size) (hl : frs.length ≤ 39) (hm : GMem w wo frs Aq cq (D)) (hD : D < wo.heap.size) (hblk : ∀ b, (Value.slice Aq frs.length cq).ownBlock = some b → w.heap.size + 3 ≤ b ∧ b < D) (hd : wo.heap[D]? = some (.cells #[.int .i64 0, .string ⟨#[]⟩, .slice none 0 0, .slice none 0 0] 34 (0, 0))) (hR : ∀ c j : Nat, sameF x (i + 1) n = some (.bad c j) → ∀ a' w', Frm 464 [(2, .pointer (some ⟨w.heap.size, 0, none⟩)), (3, .pointer (some ⟨w.heap.size + 1, 0, none⟩))] a' → w'.heap[w.heap.size]? = some (.cells #[.int .i64 0, .string ⟨#[]⟩, .slice none 0 0, .slice none 0 0] 34 (0, 0)) → w'.heap[w.heap.size + 1]? = some (.cells #[.int .i64 (c : Nat), .int .i64 (j : Nat)] 27 (0, 0)) → Below w.heap.size w w' → Q .ret a' w') (hN : ∀ v j m, sameF x (i + 1) n = some (.ok v j m) → j ≤ x.size → i < j → ∀ dc a' wx, Frm 464 [(0, .string x), (2, .pointer (some ⟨w.heap.size, 0, none⟩)), (3, .pointer (some ⟨w.heap.size + 1, 0, none⟩)), (4, .pointer (some ⟨w.heap.size + 2, 0, none⟩)), (5, .slice Aq frs.length cq), (6, .int .i64 (j : Nat)), (7, .int .i64 (n : Nat)), (8, .int .u8 (b : Nat)), (9, .pointer (some ⟨D, 0, none⟩))] a' → LeafF w wo wx frs Aq cq D (v) dc → Q .normal a' wx) (hX : sameF x (i + 1) n = none → ∀ (gg cap : Nat) a' w', Frm 464 [(0, .string x), (2, .pointer (some ⟨w.heap.size, 0, none⟩)), (3, .pointer (some ⟨w.heap.size + 1, 0, none⟩)), (4, .pointer (some ⟨w.heap.size + 2, 0, none⟩)), (5, .slice (some ⟨gg, 0, none⟩) (frs.length + 1) cap), (6, .int .i64 (i + 1 : Nat)), (7, .int .i64 (n : Nat))] a' → GMem w w' (⟨.par0, .slice none 0 0⟩ :: frs) (some ⟨gg, 0, none⟩) cap w'.heap.size → Q (.exit 1) a' w') :
    ∀ ac, Frm 464 [(0, .string x), (2, .pointer (some ⟨w.heap.size, 0, none⟩)), (3, .pointer (some ⟨w.heap.size + 1, 0, none⟩)), (4, .pointer (some ⟨w.heap.size + 2, 0, none⟩)), (5, .slice Aq frs.length cq), (6, .int .i64 (i : Nat)), (7, .int .i64 (n : Nat)), (8, .int .u8 (b : Nat)), (9, .pointer (some ⟨D, 0, none⟩))] ac → Code.wp Tryd.prog c_fr_par Q ac wo := by
  intro a0 hf0
  conv => arg 2; whnf
  refine wp_seq ?_
  refine fr_f19_wp hx4 hi (fun a1 h1 => ?_) a0 hf0
  have he1 := nameE_ge x (i + 1)
  have he2 : nameE x (i + 1) ≤ x.size := nameE_top (by omega)
  have hsz := ext_size he1 he2
  have hnil := ext_nil he1 he2
  have hal : (x.extract (i + 1) (nameE x (i + 1))).size ≤ maxLen := ext_le2 x _ _ hx4
  unfold sameF at hR hN hX
  obtain ⟨e, hE⟩ : ∃ e, nameE x (i + 1) = e := ⟨_, rfl⟩
  rw [hE] at h1 he1 he2 hsz hnil hal hR hN hX
  obtain ⟨a, hA⟩ : ∃ a, x.extract (i + 1) e = a := ⟨_, rfl⟩
  rw [hA] at h1 hsz hnil hal hR hN hX
  have tail0 : ∀ a9, Frm 464 [(0, .string x), (2, .pointer (some ⟨w.heap.size, 0, none⟩)), (3, .pointer (some ⟨w.heap.size + 1, 0, none⟩)), (4, .pointer (some ⟨w.heap.size + 2, 0, none⟩)), (5, .slice Aq frs.length cq), (6, .int .i64 (i : Nat)), (7, .int .i64 (n : Nat)), (8, .int .u8 (b : Nat)), (9, .pointer (some ⟨D, 0, none⟩))] a9 → (e = i + 1 ∨ byteAt x e ≠ 32 ∨ (byteAt x (e + 1) ≠ 61 ∧ isKey a)) → Code.wp Tryd.prog (Code.seq c_fr_f35r (Code.cond (.tmp 185) c_fr_f36 .skip)) Q a9 wo := by
    intro a9 h9 hc
    refine wp_seq ?_
    refine fr_f35r_wp (kd := 0) hd (fun a10 h10 => ?_) a9 h9
    have h10d : Frm 464 [(0, .string x), (2, .pointer (some ⟨w.heap.size, 0, none⟩)), (3, .pointer (some ⟨w.heap.size + 1, 0, none⟩)), (4, .pointer (some ⟨w.heap.size + 2, 0, none⟩)), (5, .slice Aq frs.length cq), (6, .int .i64 (i : Nat)), (7, .int .i64 (n : Nat)), (8, .int .u8 (b : Nat)), (9, .pointer (some ⟨D, 0, none⟩))] a10 := have h := h10; ⟨h.1, h.2.1, h.2.2.1, h.2.2.2.1, h.2.2.2.2.1, h.2.2.2.2.2.1, h.2.2.2.2.2.2.1, h.2.2.2.2.2.2.2.1, h.2.2.2.2.2.2.2.2.1, h.2.2.2.2.2.2.2.2.2.1, h.2.2.2.2.2.2.2.2.2.2.1, trivial⟩
    refine wp_cond_true ((h10.eval (k := 185) (v := .bool (decide ((0 : Int) = 0))) (by simp)).trans rfl) ?_
    refine fr_f36_wp hx4 (by omega) hl hm hD hblk (fun gg cap a11 w11 h11 m11 => hX ?_ gg cap a11 w11 h11 m11) a10 h10d
    by_cases h1 : e = i + 1 ∨ byteAt x e ≠ 32
    · rw [if_pos h1]
    · rw [if_neg h1]
      rcases hc with h | h | ⟨h, hk⟩
      · exact absurd (Or.inl h) h1
      · exact absurd (Or.inr h) h1
      · rw [if_neg h, if_pos hk]
  have tail1 : ∀ (v : Fv) dc a9 w9, LeafF w wo w9 frs Aq cq D v dc → v.fm.lab.kind ≠ 0 → ∀ j, Frm 464 [(0, .string x), (2, .pointer (some ⟨w.heap.size, 0, none⟩)), (3, .pointer (some ⟨w.heap.size + 1, 0, none⟩)), (4, .pointer (some ⟨w.heap.size + 2, 0, none⟩)), (5, .slice Aq frs.length cq), (6, .int .i64 (j : Nat)), (7, .int .i64 (n : Nat)), (8, .int .u8 (b : Nat)), (9, .pointer (some ⟨D, 0, none⟩))] a9 → (∀ dc a' wx, Frm 464 [(0, .string x), (2, .pointer (some ⟨w.heap.size, 0, none⟩)), (3, .pointer (some ⟨w.heap.size + 1, 0, none⟩)), (4, .pointer (some ⟨w.heap.size + 2, 0, none⟩)), (5, .slice Aq frs.length cq), (6, .int .i64 (j : Nat)), (7, .int .i64 (n : Nat)), (8, .int .u8 (b : Nat)), (9, .pointer (some ⟨D, 0, none⟩))] a' → LeafF w wo wx frs Aq cq D v dc → Q .normal a' wx) → Code.wp Tryd.prog (Code.seq c_fr_f35r (Code.cond (.tmp 185) c_fr_f36 .skip)) Q a9 w9 := by
    intro v dc a9 w9 hlf hk j h9 hfin
    obtain ⟨A1, n1, c1, B1, m1, d1, hdc, _⟩ := Fm.shape hlf.r
    have hd9 := hlf.d
    rw [hdc] at hd9
    refine wp_seq ?_
    refine fr_f35r_wp (i := j) hd9 (fun a10 h10 => ?_) a9 h9
    have h10d : Frm 464 [(0, .string x), (2, .pointer (some ⟨w.heap.size, 0, none⟩)), (3, .pointer (some ⟨w.heap.size + 1, 0, none⟩)), (4, .pointer (some ⟨w.heap.size + 2, 0, none⟩)), (5, .slice Aq frs.length cq), (6, .int .i64 (j : Nat)), (7, .int .i64 (n : Nat)), (8, .int .u8 (b : Nat)), (9, .pointer (some ⟨D, 0, none⟩))] a10 := have h := h10; ⟨h.1, h.2.1, h.2.2.1, h.2.2.2.1, h.2.2.2.2.1, h.2.2.2.2.2.1, h.2.2.2.2.2.2.1, h.2.2.2.2.2.2.2.1, h.2.2.2.2.2.2.2.2.1, h.2.2.2.2.2.2.2.2.2.1, h.2.2.2.2.2.2.2.2.2.2.1, trivial⟩
    refine wp_cond_false ((h10.eval (k := 185) (v := .bool (decide (v.fm.lab.kind = 0))) (by simp)).trans (by rw [decide_eq_false hk])) ?_
    exact wp_skip (hfin dc a10 w9 h10d hlf)
  refine wp_seq ?_
  refine fr_f20_wp (e := e) (by omega) (by omega) (fun a2 h2 => ?_) a1 h1
  refine wp_seq ?_
  refine wp_seq ?_
  refine fr_f21_wp (fun a3 h3 => ?_) a2 h2
  have h3d : Frm 464 [(0, .string x), (2, .pointer (some ⟨w.heap.size, 0, none⟩)), (3, .pointer (some ⟨w.heap.size + 1, 0, none⟩)), (4, .pointer (some ⟨w.heap.size + 2, 0, none⟩)), (5, .slice Aq frs.length cq), (6, .int .i64 (i : Nat)), (7, .int .i64 (n : Nat)), (8, .int .u8 (b : Nat)), (9, .pointer (some ⟨D, 0, none⟩)), (10, .string a), (11, .int .i64 (e : Nat))] a3 := have h := h3; ⟨h.1, h.2.1, h.2.2.1, h.2.2.2.1, h.2.2.2.2.1, h.2.2.2.2.2.1, h.2.2.2.2.2.2.1, h.2.2.2.2.2.2.2.1, h.2.2.2.2.2.2.2.2.1, h.2.2.2.2.2.2.2.2.2.1, h.2.2.2.2.2.2.2.2.2.2.1, h.2.2.2.2.2.2.2.2.2.2.2.1, h.2.2.2.2.2.2.2.2.2.2.2.2.1, trivial⟩
  have h3z : Frm 464 [(0, .string x), (2, .pointer (some ⟨w.heap.size, 0, none⟩)), (3, .pointer (some ⟨w.heap.size + 1, 0, none⟩)), (4, .pointer (some ⟨w.heap.size + 2, 0, none⟩)), (5, .slice Aq frs.length cq), (6, .int .i64 (i : Nat)), (7, .int .i64 (n : Nat)), (8, .int .u8 (b : Nat)), (9, .pointer (some ⟨D, 0, none⟩))] a3 := have h := h3; ⟨h.1, h.2.1, h.2.2.1, h.2.2.2.1, h.2.2.2.2.1, h.2.2.2.2.2.1, h.2.2.2.2.2.2.1, h.2.2.2.2.2.2.2.1, h.2.2.2.2.2.2.2.2.1, h.2.2.2.2.2.2.2.2.2.1, h.2.2.2.2.2.2.2.2.2.2.1, trivial⟩
  by_cases hq : a ≠ ⟨#[]⟩ ∧ byteAt x e = 32
  case neg =>
    refine wp_cond_false ((h3.eval (k := 101) (v := .bool (decide (a ≠ ⟨#[]⟩ ∧ byteAt x e = 32))) (by simp)).trans (by rw [decide_eq_false hq])) ?_
    refine wp_skip ?_
    refine tail0 a3 h3z ?_
    by_cases h : e = i + 1
    · exact Or.inl h
    · exact Or.inr (Or.inl (fun h2 => hq ⟨fun h3 => h (hnil.1 h3), h2⟩))
  refine wp_cond_true ((h3.eval (k := 101) (v := .bool (decide (a ≠ ⟨#[]⟩ ∧ byteAt x e = 32))) (by simp)).trans (by rw [decide_eq_true hq])) ?_
  obtain ⟨hane, h32⟩ := hq
  have hei : ¬ (e = i + 1 ∨ byteAt x e ≠ 32) := fun h => by
    rcases h with h | h
    · exact hane (hnil.2 h)
    · exact h h32
  have hex : e < x.size := byteAt_lt (by omega)
  rw [if_neg hei] at hR hN
  refine wp_seq ?_
  refine fr_f22_wp (fun a4 h4 => ?_) a3 h3d
  refine wp_seq ?_
  refine fr_f23_wp (by omega) (fun a5 h5 => ?_) a4 h4
  obtain ⟨bk, hbk⟩ : ∃ b, decide (isKey a) = b := ⟨_, rfl⟩
  obtain ⟨bs, hbs⟩ : ∃ b, decide (byteAt x (e + 1) = 61) = b := ⟨_, rfl⟩
  rw [hbk, hbs] at h5
  have hkk := isKey_dec hbk
  have hss : (bs = true → byteAt x (e + 1) = 61) ∧ (bs = false → byteAt x (e + 1) ≠ 61) := by subst hbs; exact ⟨of_decide_eq_true, of_decide_eq_false⟩
  refine wp_seq ?_
  refine fr_f129_wp (by omega) hm.z hm.B (fun e1 e2 => ?_) (fun hor a6 h6 => ?_) a5 h5
  · refine hR 11 (e + 1) ?_
    rw [if_neg (hss.2 e1), if_neg (hkk.2 e2)]
  refine wp_seq ?_
  refine fr_f26_wp (fun a7 h7 => ?_) a6 h6
  have h7z : Frm 464 [(0, .string x), (2, .pointer (some ⟨w.heap.size, 0, none⟩)), (3, .pointer (some ⟨w.heap.size + 1, 0, none⟩)), (4, .pointer (some ⟨w.heap.size + 2, 0, none⟩)), (5, .slice Aq frs.length cq), (6, .int .i64 (i : Nat)), (7, .int .i64 (n : Nat)), (8, .int .u8 (b : Nat)), (9, .pointer (some ⟨D, 0, none⟩))] a7 := have h := h7; ⟨h.1, h.2.1, h.2.2.1, h.2.2.2.1, h.2.2.2.2.1, h.2.2.2.2.2.1, h.2.2.2.2.2.2.1, h.2.2.2.2.2.2.2.1, h.2.2.2.2.2.2.2.2.1, h.2.2.2.2.2.2.2.2.2.1, h.2.2.2.2.2.2.2.2.2.2.1, trivial⟩
  have h7d : Frm 464 [(0, .string x), (2, .pointer (some ⟨w.heap.size, 0, none⟩)), (3, .pointer (some ⟨w.heap.size + 1, 0, none⟩)), (4, .pointer (some ⟨w.heap.size + 2, 0, none⟩)), (5, .slice Aq frs.length cq), (6, .int .i64 (i : Nat)), (7, .int .i64 (n : Nat)), (8, .int .u8 (b : Nat)), (9, .pointer (some ⟨D, 0, none⟩)), (10, .string a), (11, .int .i64 (e : Nat))] a7 := have h := h7; ⟨h.1, h.2.1, h.2.2.1, h.2.2.2.1, h.2.2.2.2.1, h.2.2.2.2.2.1, h.2.2.2.2.2.2.1, h.2.2.2.2.2.2.2.1, h.2.2.2.2.2.2.2.2.1, h.2.2.2.2.2.2.2.2.2.1, h.2.2.2.2.2.2.2.2.2.2.1, h.2.2.2.2.2.2.2.2.2.2.2.1, h.2.2.2.2.2.2.2.2.2.2.2.2.1, trivial⟩
  cases bs with
  | false =>
    refine wp_cond_false (h7.eval (k := 134) (v := .bool false) (by simp)) ?_
    refine wp_skip ?_
    exact tail0 a7 h7z (Or.inr (Or.inr ⟨hss.2 rfl, hkk.1 (hor.resolve_left (by decide))⟩))
  | true =>
    have h61 := hss.1 rfl
    rw [if_pos h61] at hR hN
    refine wp_cond_true (h7.eval (k := 134) (v := .bool true) (by simp)) ?_
    refine wp_seq ?_
    refine fr_f146_wp (by omega) hm.z hm.B (fun hb => ?_) (fun hb a8 h8 => ?_) a7 h7d
    · exact hR 11 (e + 2) (by rw [if_pos hb])
    have hex2 : e + 2 < x.size := byteAt_lt (by omega)
    rw [if_neg (by omega)] at hR hN
    refine wp_seq ?_
    refine fr_f29_wp hx4 (by omega) (fun a9 h9 => ?_) a8 h8
    have hf1 := nameE_ge x (e + 3)
    have hf2 : nameE x (e + 3) ≤ x.size := nameE_top (by omega)
    have hfs := ext_size hf1 hf2
    have hfn := ext_nil hf1 hf2
    have hfl : (x.extract (e + 3) (nameE x (e + 3))).size ≤ maxLen := ext_le2 x _ _ hx4
    obtain ⟨e2, hE2⟩ : ∃ e2, nameE x (e + 3) = e2 := ⟨_, rfl⟩
    rw [hE2] at h9 hf1 hf2 hfs hfn hfl hR hN
    obtain ⟨a2, hA2⟩ : ∃ a2, x.extract (e + 3) e2 = a2 := ⟨_, rfl⟩
    rw [hA2] at h9 hfs hfn hfl hN
    refine wp_seq ?_
    refine fr_f30_wp (e2 := e2) (by omega) (by omega) (fun a10 h10 => ?_) a9 h9
    refine wp_seq ?_
    refine fr_f173_wp (by omega) hm.z hm.B (fun hb => ?_) (fun hb1 hb2 a11 h11 => ?_) a10 h10
    · refine hR 11 e2 ?_
      rw [if_pos]
      rcases hb with h | h
      · exact Or.inl (hfn.1 h)
      · exact Or.inr h
    rw [if_neg (by rintro (h | h); exact hb1 (hfn.2 h); exact h hb2)] at hN
    have he2x : e2 < x.size := byteAt_lt (by omega)
    refine fr_f33t_wp hm hD hblk hd (by omega) hal hfl (fun dc a12 w12 h12 hlf => ?_) a11 h11
    exact tail1 (.same a a2) dc a12 w12 hlf (by show ((3 : Int) ≠ 0); decide) (e2 + 1) h12 (hN (.same a a2) (e2 + 1) n rfl (by omega) (by omega))
noncomputable def c_fr_nam : Code := sub [1, 1, 1, 1, 1, 0, 0, 0, 1, 1, 1, 1, 1, 1, 1, 0, 1, 1] (Tryd.f12.body.getD .skip)
set_option maxRecDepth 100000 in
set_option maxHeartbeats 4000000 in
theorem fr_nam_wp {Q : Exit → Act → World → Prop} {x : ByteArray} {w : World} {frs : List F5} {Aq : Option Addr} {cq i n b D : Nat} {wo : World} (hx4 : x.size ≤ 4000) (hi : i < x.size) (hl : frs.length ≤ 39) (hm : GMem w wo frs Aq cq (D)) (hD : D < wo.heap.size) (hblk : ∀ b, (Value.slice Aq frs.length cq).ownBlock = some b → w.heap.size + 3 ≤ b ∧ b < D) (hd : wo.heap[D]? = some (.cells #[.int .i64 0, .string ⟨#[]⟩, .slice none 0 0, .slice none 0 0] 34 (0, 0))) (hR : ∀ c j : Nat, atomF x i n = some (.bad c j) → ∀ a' w', Frm 464 [(2, .pointer (some ⟨w.heap.size, 0, none⟩)), (3, .pointer (some ⟨w.heap.size + 1, 0, none⟩))] a' → w'.heap[w.heap.size]? = some (.cells #[.int .i64 0, .string ⟨#[]⟩, .slice none 0 0, .slice none 0 0] 34 (0, 0)) → w'.heap[w.heap.size + 1]? = some (.cells #[.int .i64 (c : Nat), .int .i64 (j : Nat)] 27 (0, 0)) → Below w.heap.size w w' → Q .ret a' w') (hN : ∀ v j m, atomF x i n = some (.ok v j m) → j ≤ x.size → i ≤ j → ∀ dc a' wx, Frm 464 [(0, .string x), (2, .pointer (some ⟨w.heap.size, 0, none⟩)), (3, .pointer (some ⟨w.heap.size + 1, 0, none⟩)), (4, .pointer (some ⟨w.heap.size + 2, 0, none⟩)), (5, .slice Aq frs.length cq), (6, .int .i64 (j : Nat)), (7, .int .i64 (n : Nat)), (8, .int .u8 (b : Nat)), (9, .pointer (some ⟨D, 0, none⟩))] a' → LeafF w wo wx frs Aq cq D (v) dc → Q .normal a' wx) (hX : atomF x i n = none → i < quI x i → quI x i ≤ x.size → ∀ (gg cap : Nat) a' w', Frm 464 [(0, .string x), (2, .pointer (some ⟨w.heap.size, 0, none⟩)), (3, .pointer (some ⟨w.heap.size + 1, 0, none⟩)), (4, .pointer (some ⟨w.heap.size + 2, 0, none⟩)), (5, .slice (some ⟨gg, 0, none⟩) (frs.length + 1) cap), (6, .int .i64 (quI x i : Nat)), (7, .int .i64 (n : Nat))] a' → GMem w w' (⟨.qu (quK x i) (quX x i), .slice none 0 0⟩ :: frs) (some ⟨gg, 0, none⟩) cap w'.heap.size → Q (.exit 1) a' w') :
    ∀ ac, Frm 464 [(0, .string x), (2, .pointer (some ⟨w.heap.size, 0, none⟩)), (3, .pointer (some ⟨w.heap.size + 1, 0, none⟩)), (4, .pointer (some ⟨w.heap.size + 2, 0, none⟩)), (5, .slice Aq frs.length cq), (6, .int .i64 (i : Nat)), (7, .int .i64 (n : Nat)), (8, .int .u8 (b : Nat)), (9, .pointer (some ⟨D, 0, none⟩))] ac → Code.wp Tryd.prog c_fr_nam Q ac wo := by
  intro a0 hf0
  conv => arg 2; whnf
  refine wp_seq ?_
  refine fr_f38_wp hx4 (by omega) (fun a1 h1 => ?_) a0 hf0
  have he1 := nameE_ge x i
  have he2 : nameE x i ≤ x.size := nameE_top (by omega)
  have hsz := ext_size he1 he2
  have hal : (x.extract i (nameE x i)).size ≤ maxLen := ext_le2 x _ _ hx4
  unfold atomF at hR hN hX
  unfold quK quX quI at hX
  obtain ⟨e, hE⟩ : ∃ e, nameE x i = e := ⟨_, rfl⟩
  rw [hE] at h1 he1 he2 hsz hal hR hN hX
  obtain ⟨a, hA⟩ : ∃ a, x.extract i e = a := ⟨_, rfl⟩
  rw [hA] at h1 hsz hal hR hN hX
  refine wp_seq ?_
  refine fr_f39_wp (e := e) (by omega) (by omega) (fun a2 h2 => ?_) a1 h1
  refine wp_seq ?_
  refine fr_f40_wp (fun a3 h3 => ?_) a2 h2
  refine wp_seq ?_
  refine fr_f203_wp (fun a4 h4 => ?_) a3 h3
  obtain ⟨c2, hc2⟩ : ∃ c, byteAt x e = c := ⟨_, rfl⟩
  rw [hc2] at h4 hR hN hX
  refine wp_seq ?_
  refine fr_f43_wp (fun a5 h5 => ?_) a4 h4
  have h5d : Frm 464 [(0, .string x), (2, .pointer (some ⟨w.heap.size, 0, none⟩)), (3, .pointer (some ⟨w.heap.size + 1, 0, none⟩)), (4, .pointer (some ⟨w.heap.size + 2, 0, none⟩)), (5, .slice Aq frs.length cq), (6, .int .i64 (i : Nat)), (7, .int .i64 (n : Nat)), (8, .int .u8 (b : Nat)), (9, .pointer (some ⟨D, 0, none⟩)), (16, .string a), (17, .int .i64 (e : Nat)), (18, .int .u8 (c2 : Nat))] a5 := have h := h5; ⟨h.1, h.2.1, h.2.2.1, h.2.2.2.1, h.2.2.2.2.1, h.2.2.2.2.2.1, h.2.2.2.2.2.2.1, h.2.2.2.2.2.2.2.1, h.2.2.2.2.2.2.2.2.1, h.2.2.2.2.2.2.2.2.2.1, h.2.2.2.2.2.2.2.2.2.2.1, h.2.2.2.2.2.2.2.2.2.2.2.1, h.2.2.2.2.2.2.2.2.2.2.2.2.1, h.2.2.2.2.2.2.2.2.2.2.2.2.2.1, trivial⟩
  have h5n : Frm 464 [(0, .string x), (2, .pointer (some ⟨w.heap.size, 0, none⟩)), (3, .pointer (some ⟨w.heap.size + 1, 0, none⟩)), (4, .pointer (some ⟨w.heap.size + 2, 0, none⟩)), (5, .slice Aq frs.length cq), (6, .int .i64 (i : Nat)), (7, .int .i64 (n : Nat)), (8, .int .u8 (b : Nat)), (9, .pointer (some ⟨D, 0, none⟩)), (16, .string a), (17, .int .i64 (e : Nat))] a5 := have h := h5; ⟨h.1, h.2.1, h.2.2.1, h.2.2.2.1, h.2.2.2.2.1, h.2.2.2.2.2.1, h.2.2.2.2.2.2.1, h.2.2.2.2.2.2.2.1, h.2.2.2.2.2.2.2.2.1, h.2.2.2.2.2.2.2.2.2.1, h.2.2.2.2.2.2.2.2.2.2.1, h.2.2.2.2.2.2.2.2.2.2.2.1, h.2.2.2.2.2.2.2.2.2.2.2.2.1, trivial⟩
  by_cases h40 : c2 = 40
  · refine wp_cond_true ((h5.eval (k := 208) (v := .bool (decide (c2 = 40))) (by simp)).trans (by rw [decide_eq_true h40])) ?_
    rw [if_pos h40] at hR hN
    have hex : e < x.size := byteAt_lt (by omega)
    refine wp_seq ?_
    refine fr_f44_wp hm hD hblk hd (fun a6 w6 h6 hp6 => ?_) a5 h5n
    refine wp_seq ?_
    refine fr_f45_wp (by omega) (fun a7 h7 => ?_) a6 h6
    have h7z : Frm 464 [(0, .string x), (2, .pointer (some ⟨w.heap.size, 0, none⟩)), (3, .pointer (some ⟨w.heap.size + 1, 0, none⟩)), (4, .pointer (some ⟨w.heap.size + 2, 0, none⟩)), (5, .slice Aq frs.length cq), (6, .int .i64 (e + 1 : Nat)), (7, .int .i64 (n : Nat)), (8, .int .u8 (b : Nat)), (9, .pointer (some ⟨D, 0, none⟩))] a7 := have h := h7; ⟨h.1, h.2.1, h.2.2.1, h.2.2.2.1, h.2.2.2.2.1, h.2.2.2.2.2.1, h.2.2.2.2.2.2.1, h.2.2.2.2.2.2.2.1, h.2.2.2.2.2.2.2.2.1, h.2.2.2.2.2.2.2.2.2.1, h.2.2.2.2.2.2.2.2.2.2.1, trivial⟩
    have hfin : ∀ l v j a9 w9, l.length ≤ 4 → PredF w wo w9 frs Aq cq D a l v → Frm 464 [(0, .string x), (2, .pointer (some ⟨w.heap.size, 0, none⟩)), (3, .pointer (some ⟨w.heap.size + 1, 0, none⟩)), (4, .pointer (some ⟨w.heap.size + 2, 0, none⟩)), (5, .slice Aq frs.length cq), (6, .int .i64 (j : Nat)), (7, .int .i64 (n : Nat)), (8, .int .u8 (b : Nat)), (9, .pointer (some ⟨D, 0, none⟩))] a9 → wordsF x (e + 1) = .ok l j → j ≤ x.size → e + 1 ≤ j → Q .normal a9 w9 := by
      intro l v j a9 w9 hl4 hp9 h9 hw hj1 hj2
      refine hN (.pred a l) j n (by rw [hw]) hj1 (by omega) [.int .i64 2, .string a, v, .slice none 0 0] a9 w9 h9 ⟨hp9.m, hp9.d, ?_, hp9.le⟩
      exact Fm.shut (a := ⟨2, a, l⟩) (l := []) hal (hp9.o.slS (by unfold maxLen; omega) (fun b hb => hb) (fun b e => (show wo.heap.size ≤ b ∧ b < w9.heap.size from (by obtain ⟨xs, hvo, _⟩ := hp9.o; exact hvo.lt b e)))) Rep.Sl.nil
    unfold wordsF at hfin hR
    refine wp_seq ?_
    refine fr_f46_wp (fun a8 h8 => ?_) a7 h7z
    have h8d : Frm 464 [(0, .string x), (2, .pointer (some ⟨w.heap.size, 0, none⟩)), (3, .pointer (some ⟨w.heap.size + 1, 0, none⟩)), (4, .pointer (some ⟨w.heap.size + 2, 0, none⟩)), (5, .slice Aq frs.length cq), (6, .int .i64 (e + 1 : Nat)), (7, .int .i64 (n : Nat)), (8, .int .u8 (b : Nat)), (9, .pointer (some ⟨D, 0, none⟩))] a8 := have h := h8; ⟨h.1, h.2.1, h.2.2.1, h.2.2.2.1, h.2.2.2.2.1, h.2.2.2.2.2.1, h.2.2.2.2.2.2.1, h.2.2.2.2.2.2.2.1, h.2.2.2.2.2.2.2.2.1, h.2.2.2.2.2.2.2.2.2.1, h.2.2.2.2.2.2.2.2.2.2.1, trivial⟩
    by_cases h41 : byteAt x (e + 1) = 41
    · refine wp_cond_true ((h8.eval (k := 222) (v := .bool (decide (byteAt x (e + 1) = 41))) (by simp)).trans (by rw [decide_eq_true h41])) ?_
      have hex2 : e + 1 < x.size := byteAt_lt (by omega)
      refine fr_f47_wp (by omega) (fun a9 h9 => ?_) a8 h8d
      exact hfin [] (.slice none 0 0) (e + 1 + 1) a9 w6 (by simp) hp6 h9 (by rw [if_pos h41]) (by omega) (by omega)
    · refine wp_cond_false ((h8.eval (k := 222) (v := .bool (decide (byteAt x (e + 1) = 41))) (by simp)).trans (by rw [decide_eq_false h41])) ?_
      rw [if_neg h41] at hfin hR
      refine wp_block ?_
      have hbz := GsOk.base hm.fs
      refine fr_wloop_wp hx4 (by omega) hD hbz hblk hp6 (fun j hj => ?_) (fun l j v' a9 w9 hj hj1 hj2 hl4 h9 hp9 => ?_) a8 h8d
      · exact hR 11 j (by rw [hj])
      · refine inBlock_exit ?_
        exact hfin l v' j a9 w9 hl4 hp9 h9 hj hj1 hj2
  · refine wp_cond_false ((h5.eval (k := 208) (v := .bool (decide (c2 = 40))) (by simp)).trans (by rw [decide_eq_false h40])) ?_
    rw [if_neg h40] at hR hN hX
    refine wp_seq ?_
    refine fr_f55_wp (fun a6 h6 => ?_) a5 h5d
    have h6d : Frm 464 [(0, .string x), (2, .pointer (some ⟨w.heap.size, 0, none⟩)), (3, .pointer (some ⟨w.heap.size + 1, 0, none⟩)), (4, .pointer (some ⟨w.heap.size + 2, 0, none⟩)), (5, .slice Aq frs.length cq), (6, .int .i64 (i : Nat)), (7, .int .i64 (n : Nat)), (8, .int .u8 (b : Nat)), (9, .pointer (some ⟨D, 0, none⟩)), (16, .string a), (17, .int .i64 (e : Nat)), (18, .int .u8 (c2 : Nat))] a6 := have h := h6; ⟨h.1, h.2.1, h.2.2.1, h.2.2.2.1, h.2.2.2.2.1, h.2.2.2.2.2.1, h.2.2.2.2.2.2.1, h.2.2.2.2.2.2.2.1, h.2.2.2.2.2.2.2.2.1, h.2.2.2.2.2.2.2.2.2.1, h.2.2.2.2.2.2.2.2.2.2.1, h.2.2.2.2.2.2.2.2.2.2.2.1, h.2.2.2.2.2.2.2.2.2.2.2.2.1, h.2.2.2.2.2.2.2.2.2.2.2.2.2.1, trivial⟩
    have h6n : Frm 464 [(0, .string x), (2, .pointer (some ⟨w.heap.size, 0, none⟩)), (3, .pointer (some ⟨w.heap.size + 1, 0, none⟩)), (4, .pointer (some ⟨w.heap.size + 2, 0, none⟩)), (5, .slice Aq frs.length cq), (6, .int .i64 (i : Nat)), (7, .int .i64 (n : Nat)), (8, .int .u8 (b : Nat)), (9, .pointer (some ⟨D, 0, none⟩)), (16, .string a), (17, .int .i64 (e : Nat))] a6 := have h := h6; ⟨h.1, h.2.1, h.2.2.1, h.2.2.2.1, h.2.2.2.2.1, h.2.2.2.2.2.1, h.2.2.2.2.2.2.1, h.2.2.2.2.2.2.2.1, h.2.2.2.2.2.2.2.2.1, h.2.2.2.2.2.2.2.2.2.1, h.2.2.2.2.2.2.2.2.2.2.1, h.2.2.2.2.2.2.2.2.2.2.2.1, h.2.2.2.2.2.2.2.2.2.2.2.2.1, trivial⟩
    by_cases ht : a = wTrue
    · refine wp_cond_true ((h6.eval (k := 275) (v := .bool (decide (a = wTrue))) (by simp)).trans (by rw [decide_eq_true ht])) ?_
      rw [if_pos ht] at hN
      refine wp_seq ?_
      refine fr_f56_wp hm hD hblk hd (fun dc a7 w7 h7 hlf => ?_) a6 h6d
      refine fr_f57_wp (fun a8 h8 => ?_) a7 h7
      have h8z : Frm 464 [(0, .string x), (2, .pointer (some ⟨w.heap.size, 0, none⟩)), (3, .pointer (some ⟨w.heap.size + 1, 0, none⟩)), (4, .pointer (some ⟨w.heap.size + 2, 0, none⟩)), (5, .slice Aq frs.length cq), (6, .int .i64 (e : Nat)), (7, .int .i64 (n : Nat)), (8, .int .u8 (b : Nat)), (9, .pointer (some ⟨D, 0, none⟩))] a8 := have h := h8; ⟨h.1, h.2.1, h.2.2.1, h.2.2.2.1, h.2.2.2.2.1, h.2.2.2.2.2.1, h.2.2.2.2.2.2.1, h.2.2.2.2.2.2.2.1, h.2.2.2.2.2.2.2.2.1, h.2.2.2.2.2.2.2.2.2.1, h.2.2.2.2.2.2.2.2.2.2.1, trivial⟩
      exact hN .tru e n rfl he2 he1 dc a8 w7 h8z hlf
    · refine wp_cond_false ((h6.eval (k := 275) (v := .bool (decide (a = wTrue))) (by simp)).trans (by rw [decide_eq_false ht])) ?_
      rw [if_neg ht] at hR hN hX
      refine wp_seq ?_
      refine fr_f58_wp (fun a7 h7 => ?_) a6 h6d
      have h7d : Frm 464 [(0, .string x), (2, .pointer (some ⟨w.heap.size, 0, none⟩)), (3, .pointer (some ⟨w.heap.size + 1, 0, none⟩)), (4, .pointer (some ⟨w.heap.size + 2, 0, none⟩)), (5, .slice Aq frs.length cq), (6, .int .i64 (i : Nat)), (7, .int .i64 (n : Nat)), (8, .int .u8 (b : Nat)), (9, .pointer (some ⟨D, 0, none⟩)), (16, .string a), (17, .int .i64 (e : Nat)), (18, .int .u8 (c2 : Nat))] a7 := have h := h7; ⟨h.1, h.2.1, h.2.2.1, h.2.2.2.1, h.2.2.2.2.1, h.2.2.2.2.2.1, h.2.2.2.2.2.2.1, h.2.2.2.2.2.2.2.1, h.2.2.2.2.2.2.2.2.1, h.2.2.2.2.2.2.2.2.2.1, h.2.2.2.2.2.2.2.2.2.2.1, h.2.2.2.2.2.2.2.2.2.2.2.1, h.2.2.2.2.2.2.2.2.2.2.2.2.1, h.2.2.2.2.2.2.2.2.2.2.2.2.2.1, trivial⟩
      have h7n : Frm 464 [(0, .string x), (2, .pointer (some ⟨w.heap.size, 0, none⟩)), (3, .pointer (some ⟨w.heap.size + 1, 0, none⟩)), (4, .pointer (some ⟨w.heap.size + 2, 0, none⟩)), (5, .slice Aq frs.length cq), (6, .int .i64 (i : Nat)), (7, .int .i64 (n : Nat)), (8, .int .u8 (b : Nat)), (9, .pointer (some ⟨D, 0, none⟩)), (16, .string a), (17, .int .i64 (e : Nat))] a7 := have h := h7; ⟨h.1, h.2.1, h.2.2.1, h.2.2.2.1, h.2.2.2.2.1, h.2.2.2.2.2.1, h.2.2.2.2.2.2.1, h.2.2.2.2.2.2.2.1, h.2.2.2.2.2.2.2.2.1, h.2.2.2.2.2.2.2.2.2.1, h.2.2.2.2.2.2.2.2.2.2.1, h.2.2.2.2.2.2.2.2.2.2.2.1, h.2.2.2.2.2.2.2.2.2.2.2.2.1, trivial⟩
      by_cases hk : a = wAll ∨ a = wSome
      case neg =>
        refine wp_cond_false ((h7.eval (k := 283) (v := .bool (decide (a = wAll ∨ a = wSome))) (by simp)).trans (by rw [decide_eq_false hk])) ?_
        rw [if_neg hk] at hR
        exact fr_f70_wp hm.z hm.B (hR 11 e rfl) a7 h7n
      refine wp_cond_true ((h7.eval (k := 283) (v := .bool (decide (a = wAll ∨ a = wSome))) (by simp)).trans (by rw [decide_eq_true hk])) ?_
      rw [if_pos hk] at hR hX
      refine wp_seq ?_
      refine fr_f285_wp hm.z hm.B (fun hb => ?_) (fun hb a8 h8 => ?_) a7 h7d
      · exact hR 11 e (by rw [if_pos hb])
      rw [if_neg (by omega)] at hR hX
      have h8n : Frm 464 [(0, .string x), (2, .pointer (some ⟨w.heap.size, 0, none⟩)), (3, .pointer (some ⟨w.heap.size + 1, 0, none⟩)), (4, .pointer (some ⟨w.heap.size + 2, 0, none⟩)), (5, .slice Aq frs.length cq), (6, .int .i64 (i : Nat)), (7, .int .i64 (n : Nat)), (8, .int .u8 (b : Nat)), (9, .pointer (some ⟨D, 0, none⟩)), (16, .string a), (17, .int .i64 (e : Nat))] a8 := have h := h8; ⟨h.1, h.2.1, h.2.2.1, h.2.2.2.1, h.2.2.2.2.1, h.2.2.2.2.2.1, h.2.2.2.2.2.2.1, h.2.2.2.2.2.2.2.1, h.2.2.2.2.2.2.2.2.1, h.2.2.2.2.2.2.2.2.2.1, h.2.2.2.2.2.2.2.2.2.2.1, h.2.2.2.2.2.2.2.2.2.2.2.1, h.2.2.2.2.2.2.2.2.2.2.2.2.1, trivial⟩
      have hex : e < x.size := byteAt_lt (by omega)
      refine wp_seq ?_
      refine fr_f61_wp hx4 (by omega) (fun a9 h9 => ?_) a8 h8n
      have hf1 := nameE_ge x (e + 1)
      have hf2 : nameE x (e + 1) ≤ x.size := nameE_top (by omega)
      have hfs := ext_size hf1 hf2
      have hfn := ext_nil hf1 hf2
      have hfl : (x.extract (e + 1) (nameE x (e + 1))).size ≤ maxLen := ext_le2 x _ _ hx4
      obtain ⟨e2, hE2⟩ : ∃ e2, nameE x (e + 1) = e2 := ⟨_, rfl⟩
      rw [hE2] at h9 hf1 hf2 hfs hfn hfl hR hX
      obtain ⟨a2, hA2⟩ : ∃ a2, x.extract (e + 1) e2 = a2 := ⟨_, rfl⟩
      rw [hA2] at h9 hfs hfn hfl hX
      refine wp_seq ?_
      refine fr_f62_wp (e2 := e2) (by omega) (by omega) (fun a10 h10 => ?_) a9 h9
      refine wp_seq ?_
      refine fr_f311_wp (by omega) hm.z hm.B (fun hb => ?_) (fun hb1 hb2 a11 h11 => ?_) a10 h10
      · refine hR 11 e2 ?_
        rw [if_pos]
        rcases hb with h | h
        · exact Or.inl (hfn.1 h)
        · exact Or.inr h
      rw [if_neg (by rintro (h | h); exact hb1 (hfn.2 h); exact h hb2)] at hX
      have he2x : e2 < x.size := byteAt_lt (by omega)
      refine wp_seq ?_
      refine fr_f65_wp (fun a12 h12 => ?_) a11 h11
      have hpush : ∀ k a15, Frm 464 [(0, .string x), (2, .pointer (some ⟨w.heap.size, 0, none⟩)), (3, .pointer (some ⟨w.heap.size + 1, 0, none⟩)), (4, .pointer (some ⟨w.heap.size + 2, 0, none⟩)), (5, .slice Aq frs.length cq), (6, .int .i64 (i : Nat)), (7, .int .i64 (n : Nat)), (8, .int .u8 (b : Nat)), (9, .pointer (some ⟨D, 0, none⟩)), (16, .string a), (17, .int .i64 (e : Nat)), (20, .string a2), (21, .int .i64 (e2 : Nat)), (22, .int .i64 (k : Nat))] a15 → k = (if a = wAll then 8 else 9) → Code.wp Tryd.prog c_fr_f68 Q a15 wo := by
        intro k a15 h15 hk2
        refine fr_f68_wp hx4 (by omega) hl hm hD hblk (by omega) hfl ?_ a15 h15
        intro gg cap a16 w16 h16 m16
        rw [hk2] at m16
        exact hX rfl (by omega) (by omega) gg cap a16 w16 h16 m16
      refine wp_seq ?_
      refine wp_seq ?_
      refine fr_f66_wp (fun a13 h13 => ?_) a12 h12
      have h13d : Frm 464 [(0, .string x), (2, .pointer (some ⟨w.heap.size, 0, none⟩)), (3, .pointer (some ⟨w.heap.size + 1, 0, none⟩)), (4, .pointer (some ⟨w.heap.size + 2, 0, none⟩)), (5, .slice Aq frs.length cq), (6, .int .i64 (i : Nat)), (7, .int .i64 (n : Nat)), (8, .int .u8 (b : Nat)), (9, .pointer (some ⟨D, 0, none⟩)), (16, .string a), (17, .int .i64 (e : Nat)), (20, .string a2), (21, .int .i64 (e2 : Nat)), (22, .int .i64 8)] a13 := have h := h13; ⟨h.1, h.2.1, h.2.2.1, h.2.2.2.1, h.2.2.2.2.1, h.2.2.2.2.2.1, h.2.2.2.2.2.2.1, h.2.2.2.2.2.2.2.1, h.2.2.2.2.2.2.2.2.1, h.2.2.2.2.2.2.2.2.2.1, h.2.2.2.2.2.2.2.2.2.2.1, h.2.2.2.2.2.2.2.2.2.2.2.1, h.2.2.2.2.2.2.2.2.2.2.2.2.1, h.2.2.2.2.2.2.2.2.2.2.2.2.2.1, h.2.2.2.2.2.2.2.2.2.2.2.2.2.2.1, h.2.2.2.2.2.2.2.2.2.2.2.2.2.2.2.1, trivial⟩
      by_cases hsm : a = wSome
      · refine wp_cond_true ((h13.eval (k := 316) (v := .bool (decide (a = wSome))) (by simp)).trans (by rw [decide_eq_true hsm])) ?_
        refine fr_f67_wp (fun a14 h14 => ?_) a13 h13d
        exact hpush 9 a14 h14 (by rw [if_neg (by rw [hsm]; decide +kernel)])
      · refine wp_cond_false ((h13.eval (k := 316) (v := .bool (decide (a = wSome))) (by simp)).trans (by rw [decide_eq_false hsm])) ?_
        refine wp_skip ?_
        exact hpush 8 a13 h13d (by rw [if_pos (hk.resolve_right hsm)])

end Go.Proofs.YtnoceodmnjhljabDoor
