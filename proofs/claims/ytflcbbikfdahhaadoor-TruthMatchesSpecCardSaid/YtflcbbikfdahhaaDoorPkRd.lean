/- Lemmas. -/
import Derived.Test.YtflcbbikfdahhaaDoorProg
import Derived.Test.YtflcbbikfdahhaaDoorPkRb
import Derived.Test.YtflcbbikfdahhaaDoorPkRc
import Derived.Deep.DeepCutAuto
namespace Go.Proofs.YtflcbbikfdahhaaDoor
open Go Go.RowKit
set_option linter.unusedSimpArgs false
set_option linter.unusedVariables false
noncomputable section
variable {sz : Int} {j n c : Nat} {w : World} {S : Nat → Prop} {A : Option Addr}

def prevOf {α : Type} (l : List α) : Nat → Option α
  | 0 => none
  | j + 1 => l[j]?
theorem consF_step {l : List Con} (hj : j < l.length) : consF sz (prevOf l j) j (l.drop j) = if conCode sz (prevOf l j) l[j] = 0 then consF sz (prevOf l (j + 1)) (j + 1) (l.drop (j + 1)) else (conCode sz (prevOf l j) l[j], j) := by
  rw [List.drop_eq_getElem_cons hj]
  conv => lhs; unfold consF
  rw [show prevOf l (j + 1) = some l[j] from List.getElem?_eq_getElem hj]
theorem relsF_step {l : List Rel} (hj : j < l.length) : relsF sz (prevOf l j) j (l.drop j) = if relCode sz (prevOf l j) l[j] = 0 then relsF sz (prevOf l (j + 1)) (j + 1) (l.drop (j + 1)) else (relCode sz (prevOf l j) l[j], j) := by
  rw [List.drop_eq_getElem_cons hj]
  conv => lhs; unfold relsF
  rw [show prevOf l (j + 1) = some l[j] from List.getElem?_eq_getElem hj]
theorem tupsF_step {ar : Int} {l : List (List Int)} (hj : j < l.length) : tupsF sz ar (prevOf l j) (l.drop j) = if tupCode sz ar (prevOf l j) l[j] = 0 then tupsF sz ar (prevOf l (j + 1)) (l.drop (j + 1)) else tupCode sz ar (prevOf l j) l[j] := by
  rw [List.drop_eq_getElem_cons hj]
  conv => lhs; unfold tupsF
  rw [show prevOf l (j + 1) = some l[j] from List.getElem?_eq_getElem hj]
theorem con_at {l : List Con} (h : conRep.Sl w S (.slice A n c) l) (hj : j < l.length) : ∃ b o, A = some ⟨b, o, none⟩ ∧ S b ∧ w.cell? ⟨b, o + j * 2, none⟩ = some (.string l[j].nm) ∧ w.cell? ⟨b, o + j * 2 + 1, none⟩ = some (.int .i64 l[j].v) ∧ l[j].nm.size ≤ maxLen := by
  obtain ⟨b, o, cs, hA, hSb, ⟨hx, hn⟩, hcell⟩ := Rep.Sl.at_ h (k := j) (a := l[j]) (by simp [hj])
  subst hx
  exact ⟨b, o, hA, hSb, hcell 0 _ rfl, hcell 1 _ rfl, hn⟩
theorem rel_at {l : List Rel} (h : relRep.Sl w S (.slice A n c) l) (hj : j < l.length) : ∃ b o T t, A = some ⟨b, o, none⟩ ∧ S b ∧ w.cell? ⟨b, o + j * 3, none⟩ = some (.string l[j].nm) ∧ w.cell? ⟨b, o + j * 3 + 1, none⟩ = some (.int .i64 l[j].ar) ∧ w.cell? ⟨b, o + j * 3 + 2, none⟩ = some (.slice T l[j].tp.length t) ∧ l[j].nm.size ≤ maxLen ∧ l[j].tp.length ≤ maxLen ∧ intsRep.Sl w S (.slice T l[j].tp.length t) l[j].tp := by
  obtain ⟨b, o, cs, hA, hSb, ⟨v, hx, hn, hv⟩, hcell⟩ := Rep.Sl.at_ h (k := j) (a := l[j]) (by simp [hj])
  subst hx
  obtain ⟨T, t, rfl, hl⟩ := hv.shape
  exact ⟨b, o, T, t, hA, hSb, hcell 0 _ rfl, hcell 1 _ rfl, hcell 2 _ rfl, hn, hl, hv⟩
theorem tup_at {l : List (List Int)} (h : intsRep.Sl w S (.slice A n c) l) (hj : j < l.length) : ∃ b o T t, A = some ⟨b, o, none⟩ ∧ S b ∧ w.cell? ⟨b, o + j, none⟩ = some (.slice T l[j].length t) ∧ l[j].length ≤ maxLen ∧ zRep.Sl w S (.slice T l[j].length t) l[j] := by
  obtain ⟨b, o, cs, hA, hSb, ⟨v, hx, hv⟩, hcell⟩ := Rep.Sl.at_ h (k := j) (a := l[j]) (by simp [hj])
  subst hx
  obtain ⟨T, t, rfl, hl⟩ := hv.shape
  exact ⟨b, o, T, t, hA, hSb, by have := hcell 0 _ rfl; simpa [intsRep] using this, hl, hv⟩
theorem mdFault_mk (sz : Int) (cl : List Con) (rl : List Rel) : mdFault ⟨sz, cl, rl⟩ = if sz < 1 ∨ 6 < sz then (3, 0) else if 300 < cl.length ∨ 300 < rl.length then (2, 0) else if (consF sz none 0 cl).1 = 0 then relsF sz none 0 rl else consF sz none 0 cl := rfl
theorem below_nq {B : Nat} {u : World} (h : Below B u w) (n : Nat) : Below B u (w.drewN n) := ⟨h.os, h.tape, h.output, h.size, h.block⟩
def MdAt (m : Md) (w : World) (e : Ending) (w' : World) : Prop := e = .returned (.agg #[.int .i64 ((mdFault m).1 : Nat), .int .i64 ((mdFault m).2 : Nat)]) ∧ Below w.heap.size w w'
end
noncomputable section
set_option maxRecDepth 100000
set_option maxHeartbeats 4000000

def mdSmall : Md := ⟨1, [⟨⟨#[107, 105, 109]⟩, 0⟩], [⟨⟨#[100, 111, 103]⟩, 1, [[0]]⟩]⟩
theorem mdSmall_ok : mdFault mdSmall = (0, 0) := by decide +kernel
theorem sl_lit {α : Type} {ρ : Rep α} {W : World} {S : Nat → Prop} {x : α} {ds : List Value} {blk : Nat} {T : TypeId} {fr : Nat × Nat} (hx : ρ.R W S x ds) (hb : W.heap[blk]? = some (.cells ds.toArray T fr)) (hS : S blk) :
    ρ.Sl W S (.slice (some ⟨blk, 0, none⟩) 1 1) [x] :=
  ⟨_, 1, 1, rfl, rfl, by simp [maxLen], fun _ => ⟨blk, 0, ds, rfl, hS, Rep.All.single hx, fun j u hj => by rw [Nat.zero_add]; exact cell_heap hb (by simpa using hj)⟩⟩
def FrS (w w' : World) : Nat → Prop := fun b => w.heap.size ≤ b ∧ b < w'.heap.size
def SmallAt (w : World) (e : Ending) (w' : World) : Prop := ∃ A c B d, e = .returned (.agg #[.int .i64 1, .slice A 1 c, .slice B 1 d]) ∧ mdSmall.In w' (FrS w w') [.int .i64 1, .slice A 1 c, .slice B 1 d] ∧ Below w.heap.size w w'
theorem small_any (w : World) : Calls Tryd.prog 16 #[] w (SmallAt w) := by
  go_enter Tryd.func16, Tryd.ntmps16
  go_upto_region 1 with (fail)
  go_cut [] (fun wx => mdSmall.In wx (FrS w wx) [.int .i64 1, .slice (some ⟨w.heap.size + 1, 0, none⟩) 1 1, .slice (some ⟨w.heap.size + 4, 0, none⟩) 1 1] ∧ wx.heap[w.heap.size]? = some (.cells #[.int .i64 1, .slice (some ⟨w.heap.size + 1, 0, none⟩) 1 1, .slice (some ⟨w.heap.size + 4, 0, none⟩) 1 1] 25 (0, 0)) ∧ Below w.heap.size w wx)
  case first =>
    go_wp2_with fail
    go_meet
    have hz : ∀ (o1 o2 o3 o4 o5 : Obj), (((((w.alloc o1).alloc o2).alloc o3).alloc o4).alloc o5).heap.size = w.heap.size + 5 := fun _ _ _ _ _ => by simp
    refine ⟨⟨_, _, rfl, sl_lit (ρ := conRep) (x := ⟨⟨#[107, 105, 109]⟩, 0⟩) (ds := [.string ⟨#[107, 105, 109]⟩, .int .i64 0]) (T := 56) (fr := (0, 0)) ⟨rfl, by decide +kernel⟩ ?k1 ⟨by omega, by rw [hz]; omega⟩,
      sl_lit (ρ := relRep) (x := ⟨⟨#[100, 111, 103]⟩, 1, [[0]]⟩) (ds := [.string ⟨#[100, 111, 103]⟩, .int .i64 1, .slice (some ⟨w.heap.size + 3, 0, none⟩) 1 1]) (T := 65) (fr := (0, 0)) ⟨_, rfl, by decide +kernel,
        sl_lit (ρ := intsRep) (x := [0]) (ds := [.slice (some ⟨w.heap.size + 2, 0, none⟩) 1 1]) (T := 44) (fr := (0, 0)) ⟨_, rfl, sl_lit (ρ := zRep) (x := 0) (ds := [.int .i64 0]) (T := 3) (fr := (0, 0)) rfl ?k2 ⟨by omega, by rw [hz]; omega⟩⟩ ?k3 ⟨by omega, by rw [hz]; omega⟩⟩ ?k4 ⟨by omega, by rw [hz]; omega⟩⟩, ?k0, by go_grown⟩
    case k1 => exact heap_old (by first | (simp; done) | (simp; omega)) (heap_old (by first | (simp; done) | (simp; omega)) (heap_old (by first | (simp; done) | (simp; omega)) (heap_at (by first | (simp; done) | (simp; omega)))))
    case k2 => exact heap_old (by first | (simp; done) | (simp; omega)) (heap_old (by first | (simp; done) | (simp; omega)) (heap_at (by first | (simp; done) | (simp; omega))))
    case k3 => exact heap_old (by first | (simp; done) | (simp; omega)) (heap_at (by first | (simp; done) | (simp; omega)))
    case k4 => exact heap_at (by first | (simp; done) | (simp; omega))
    case k0 => exact heap_old (by first | (simp; done) | (simp; omega)) (heap_old (by first | (simp; done) | (simp; omega)) (heap_old (by first | (simp; done) | (simp; omega)) (heap_old (by first | (simp; done) | (simp; omega)) (heap_at rfl))))
  case rest =>
    obtain ⟨hin, k0, hb⟩ := hcut
    rename World => wx
    have hfin : SmallAt w (.returned (.agg #[.int .i64 1, .slice (some ⟨w.heap.size + 1, 0, none⟩) 1 1, .slice (some ⟨w.heap.size + 4, 0, none⟩) 1 1])) wx := ⟨_, _, _, _, rfl, hin, hb⟩
    have HIN := Lib.hid hin
    have HB := Lib.hid hb
    have HFIN := Lib.hid hfin
    clear hin hb hfin
    have k0_0 := cv0 k0
    have k0_1 := cv1 k0
    have k0_2 := cv2 k0
    have k0_l := lt_heap k0
    have K0 := Lib.hid k0
    clear k0
    go_wp2_with fail
    refine bodyPost_ret (v := .agg #[.int .i64 1, .slice (some ⟨w.heap.size + 1, 0, none⟩) 1 1, .slice (some ⟨w.heap.size + 4, 0, none⟩) 1 1]) (by simp [results, Tryd.results16, go_sem, k0_0, k0_1, k0_2, k0_l]) rfl ?_
    exact HFIN.out
end
noncomputable section
set_option maxRecDepth 100000
set_option maxHeartbeats 1600000

def okByte (c : UInt8) : Bool := isLow c || isOther c
theorem okName_eq (s : ByteArray) : okName s = (decide (1 ≤ s.size) && decide (s.size ≤ 30) && isLow (s.data.toList.headD 0) && s.data.toList.all okByte) := rfl
theorem all_snoc (s : ByteArray) (k : Nat) (h : k < s.size) : (s.data.toList.take (k + 1)).all okByte = ((s.data.toList.take k).all okByte && okByte s[k]) := by
  rw [List.take_succ_eq_append_getElem (by simpa using h)]; simp; rfl
theorem head_at (s : ByteArray) (h : 0 < s.size) : s.data.toList.headD 0 = s[0] := by
  obtain ⟨⟨l⟩⟩ := s
  cases l with
  | nil => simp [ByteArray.size] at h
  | cons a l => rfl
theorem all_bad (s : ByteArray) (k : Nat) (h : k < s.size) (hb : okByte s[k] = false) : s.data.toList.all okByte = false := by
  rw [List.all_eq_false]
  refine ⟨s[k], ?_, by simp [hb]⟩
  have : s[k] = s.data.toList[k]'(by simpa using h) := rfl
  rw [this]; exact List.getElem_mem _
theorem name_any (s : ByteArray) (w : World) (hs : s.size ≤ maxLen) :
    Calls Tryd.prog 67 #[.string s] w fun e w' => e = .returned (.bool (okName s)) ∧ w = w' := by
  unfold maxLen at hs
  have HF : Hid (∀ b, okName s = b → Ending.returned (.bool b) = .returned (.bool (okName s))) := Lib.hid (fun b h => by rw [h])
  by_cases h1 : s.size = 0
  · have f := HF.out false (by simp [okName, h1])
    have F := Lib.hid f
    clear f HF
    have h2 : ((s.size : Int) == 0) = true := by simp [h1]
    clear h1
    go_enter Tryd.func67, Tryd.ntmps67
    go_wp2_with fail
    go_returns
    exact ⟨F.out, rfl⟩
  have h1' : ((s.size : Int) == 0) = false := beq_eq_false_iff_ne.2 (by omega)
  have h1p : 0 < s.size := by omega
  by_cases h2 : 30 < s.size
  · have f := HF.out false (by rw [okName, decide_eq_false (show ¬ s.size ≤ 30 by omega)]; simp)
    have F := Lib.hid f
    clear f HF h1
    go_enter Tryd.func67, Tryd.ntmps67
    go_wp2_with fail
    go_returns
    exact ⟨F.out, rfl⟩
  have hh := head_at s h1p
  by_cases h3 : isLow s[0] = true
  case neg =>
    have f := HF.out false (by rw [okName, hh]; simp [h3])
    have F := Lib.hid f
    have h4 : s[0].toNat < 97 ∨ 122 < s[0].toNat := by simp [isLow] at h3; omega
    clear f HF h1 hh h3
    rcases h4 with h4 | h4
    all_goals
      go_enter Tryd.func67, Tryd.ntmps67
      go_wp2_with fail
      go_returns
      exact ⟨F.out, rfl⟩
  have h4 : 97 ≤ s[0].toNat ∧ s[0].toNat ≤ 122 := by simpa [isLow] using h3
  obtain ⟨h4, h5⟩ := h4
  have hok : okName s = s.data.toList.all okByte := by rw [okName_eq, hh, h3]; simp; omega
  have HOK := Lib.hid hok
  clear hok h3 hh h1
  go_enter Tryd.func67, Tryd.ntmps67
  go_wp2_with fail
  go_loop [25] (fun i => ∃ k : Nat, k ≤ s.size ∧ i = .int .i64 k ∧ (s.data.toList.take k).all okByte = true) (fun i => s.size - (intOf i).toNat)
  case atStart => exact ⟨0, Nat.zero_le _, rfl, rfl⟩
  case round =>
    obtain ⟨k, hk, rfl, hall⟩ := hrel
    have HALL := Lib.hid hall
    clear hall
    by_cases hlt : k < s.size
    · have hsn := all_snoc s k hlt
      have HSN := Lib.hid hsn
      have HB : Hid (okByte s[k] = false → Ending.returned (.bool false) = .returned (.bool (okName s))) := Lib.hid (fun h => HF.out false (by rw [HOK.out]; exact all_bad s k hlt h))
      clear hsn
      by_cases hb : okByte s[k] = true
      · have hcase : (97 ≤ s[k].toNat ∧ s[k].toNat ≤ 122) ∨ ((48 ≤ s[k].toNat ∧ s[k].toNat ≤ 57)) ∨ s[k].toNat = 95 ∨ s[k].toNat = 45 := by
          simp [okByte, isLow, isOther] at hb; omega
        have HBB := Lib.hid hb
        clear hb
        go_wp2_with fail
        all_goals first
          | (exfalso; (try simp only [Bool.not_eq_true', Bool.not_eq_false', beq_eq_false_iff_ne, beq_iff_eq, ne_eq, decide_eq_true_eq, decide_eq_false_iff_not] at *) <;> omega)
          | (go_round
             case rel => exact ⟨k + 1, by omega, by go_num, by rw [HSN.out, HALL.out, HBB.out]; rfl⟩
             case measure => simp [intOf]; omega)
      · have HBF := Lib.hid (HB.out (by simpa using hb))
        have hcase : ¬ (97 ≤ s[k].toNat ∧ s[k].toNat ≤ 122) ∧ ¬ ((48 ≤ s[k].toNat ∧ s[k].toNat ≤ 57)) ∧ s[k].toNat ≠ 95 ∧ s[k].toNat ≠ 45 := by
          simp [okByte, isLow, isOther] at hb; omega
        clear hb
        go_wp2_with fail
        all_goals first
          | (exfalso; (try simp only [Bool.not_eq_true', Bool.not_eq_false', beq_eq_false_iff_ne, beq_iff_eq, ne_eq, decide_eq_true_eq, decide_eq_false_iff_not] at *) <;> omega)
          | (go_returns
             exact ⟨HBF.out, rfl⟩)
    · go_wp2_with fail
      go_returns
      refine ⟨HF.out true ?_, rfl⟩
      have hks : s.data.toList.take k = s.data.toList := List.take_of_length_le (by simp; omega)
      rw [HOK.out, ← hks]; exact HALL.out
theorem refName_any (s : ByteArray) (w : World) (hs : s.size ≤ maxLen) :
    Calls Tryd.prog 71 #[.string s] w fun e w' => e = .returned (.bool (okName s)) ∧ w = w' := by
  unfold maxLen at hs
  have HF : Hid (∀ b, okName s = b → Ending.returned (.bool b) = .returned (.bool (okName s))) := Lib.hid (fun b h => by rw [h])
  by_cases h1 : s.size = 0
  · have f := HF.out false (by simp [okName, h1])
    have F := Lib.hid f
    clear f HF
    have h2 : ((s.size : Int) < 1) := by simp [h1]
    clear h1
    go_enter Tryd.func71, Tryd.ntmps71
    go_wp2_with fail
    go_returns
    exact ⟨F.out, rfl⟩
  have h1' : ¬ ((s.size : Int) < 1) := by omega
  have h1p : 0 < s.size := by omega
  by_cases h2 : 30 < s.size
  · have f := HF.out false (by rw [okName, decide_eq_false (show ¬ s.size ≤ 30 by omega)]; simp)
    have F := Lib.hid f
    clear f HF h1
    go_enter Tryd.func71, Tryd.ntmps71
    go_wp2_with fail
    go_returns
    exact ⟨F.out, rfl⟩
  have hh := head_at s h1p
  have hok : okName s = (isLow s[0] && s.data.toList.all okByte) := by rw [okName_eq, hh, decide_eq_true (show 1 ≤ s.size by omega), decide_eq_true (show s.size ≤ 30 by omega)]; rfl
  have HOK := Lib.hid hok
  clear hok hh h1
  go_enter Tryd.func71, Tryd.ntmps71
  go_wp2_with fail
  go_loop [3] (fun i => ∃ k : Nat, k ≤ s.size ∧ i = .int .i64 k ∧ (s.data.toList.take k).all okByte = true ∧ (0 < k → isLow s[0] = true)) (fun i => s.size - (intOf i).toNat)
  case atStart => exact ⟨0, Nat.zero_le _, rfl, rfl, by omega⟩
  case round =>
    obtain ⟨k, hk, rfl, hall, hlo⟩ := hrel
    have HALL := Lib.hid hall
    have HLO := Lib.hid hlo
    clear hall hlo
    by_cases hlt : k < s.size
    · have hsn := all_snoc s k hlt
      have HSN := Lib.hid hsn
      have HB : Hid (okByte s[k] = false → Ending.returned (.bool false) = .returned (.bool (okName s))) := Lib.hid (fun h => HF.out false (by rw [HOK.out, all_bad s k hlt h, Bool.and_false]))
      have HB0 : Hid (k = 0 → isLow s[k] = false → Ending.returned (.bool false) = .returned (.bool (okName s))) := Lib.hid (fun h0 h => HF.out false (by subst h0; rw [HOK.out, h, Bool.false_and]))
      have HG : Hid (k = 0 → isLow s[k] = true → isLow s[0] = true) := Lib.hid (fun h0 h => by subst h0; exact h)
      clear hsn
      have q0 : (0 : Int) ≤ (k : Int) := by omega
      have q1 : (k : Int) < (s.size : Int) := by omega
      by_cases hl : isLow s[k] = true
      · have h6 : 97 ≤ s[k].toNat ∧ s[k].toNat ≤ 122 := by simpa [isLow] using hl
        obtain ⟨h6, h7⟩ := h6
        have HL := Lib.hid hl
        clear hl
        go_wp2_with fail
        all_goals first
          | (exfalso; (try simp only [Bool.not_eq_true', Bool.not_eq_false', beq_eq_false_iff_ne, beq_iff_eq, ne_eq, decide_eq_true_eq, decide_eq_false_iff_not] at *) <;> omega)
          | (go_round
             case rel => exact ⟨k + 1, by omega, by go_num, by rw [HSN.out, HALL.out]; simp [okByte, HL.out], fun _ => by
               by_cases h0 : k = 0
               · exact HG.out h0 HL.out
               · exact HLO.out (by omega)⟩
             case measure => simp [intOf]; omega)
      have h6 : ¬ (97 ≤ s[k].toNat ∧ s[k].toNat ≤ 122) := by simpa [isLow] using hl
      have HL := Lib.hid (show isLow s[k] = false by simpa using hl)
      clear hl
      by_cases h0 : k = 0
      · have HFIN := Lib.hid (HB0.out h0 HL.out)
        have h0' : ((k : Int) == 0) = true := by simp [h0]
        clear h0
        go_wp2_with fail
        all_goals first
          | (exfalso; (try simp only [Bool.not_eq_true', Bool.not_eq_false', beq_eq_false_iff_ne, beq_iff_eq, ne_eq, decide_eq_true_eq, decide_eq_false_iff_not] at *) <;> omega)
          | (go_returns
             exact ⟨HFIN.out, rfl⟩)
      have h0' : ((k : Int) == 0) = false := beq_eq_false_iff_ne.2 (by omega)
      by_cases hb : isOther s[k] = true
      · have hcase : ((48 ≤ s[k].toNat ∧ s[k].toNat ≤ 57)) ∨ s[k].toNat = 95 ∨ s[k].toNat = 45 := by
          simp [isOther] at hb; omega
        have HBB := Lib.hid hb
        clear hb
        go_wp2_with fail
        all_goals first
          | (exfalso; (try simp only [Bool.not_eq_true', Bool.not_eq_false', beq_eq_false_iff_ne, beq_iff_eq, ne_eq, decide_eq_true_eq, decide_eq_false_iff_not] at *) <;> omega)
          | (go_round
             case rel => exact ⟨k + 1, by omega, by go_num, by rw [HSN.out, HALL.out]; simp [okByte, HBB.out], fun _ => HLO.out (by omega)⟩
             case measure => simp [intOf]; omega)
      · have HBF := Lib.hid (HB.out (by simp [okByte, HL.out, hb]))
        have hcase : ¬ ((48 ≤ s[k].toNat ∧ s[k].toNat ≤ 57)) ∧ s[k].toNat ≠ 95 ∧ s[k].toNat ≠ 45 := by
          simp [isOther] at hb; omega
        clear hb
        go_wp2_with fail
        all_goals first
          | (exfalso; (try simp only [Bool.not_eq_true', Bool.not_eq_false', beq_eq_false_iff_ne, beq_iff_eq, ne_eq, decide_eq_true_eq, decide_eq_false_iff_not] at *) <;> omega)
          | (go_returns
             exact ⟨HBF.out, rfl⟩)
    · go_wp2_with fail
      go_returns
      refine ⟨HF.out true ?_, rfl⟩
      have hks : s.data.toList.take k = s.data.toList := List.take_of_length_le (by simp; omega)
      rw [HOK.out, HLO.out (by omega), ← hks, HALL.out]; rfl
end
noncomputable section
variable {P Q : Nat → Prop} {u v w : World}

structure Keeps (P : Nat → Prop) (w w' : World) : Prop where
  os : w'.os = w.os
  tape : w'.tape = w.tape
  output : w'.output = w.output
  size : w.heap.size ≤ w'.heap.size
  block : ∀ k, k < w.heap.size → ¬ P k → w'.heap[k]? = w.heap[k]?
theorem Keeps.refl (P : Nat → Prop) (w : World) : Keeps P w w := ⟨rfl, rfl, rfl, Nat.le_refl _, fun _ _ _ => rfl⟩
theorem Keeps.trans (h : Keeps P u v) (k : Keeps P v w) : Keeps P u w :=
  ⟨k.os.trans h.os, k.tape.trans h.tape, k.output.trans h.output, Nat.le_trans h.size k.size, fun i h1 h2 => (k.block i (Nat.lt_of_lt_of_le h1 h.size) h2).trans (h.block i h1 h2)⟩
theorem Keeps.alloc (h : Keeps P u v) (o : Obj) : Keeps P u (v.alloc o) :=
  ⟨h.os, h.tape, h.output, Nat.le_trans h.size (by simp), fun i h1 h2 => (Below.heap_alloc v o i (Nat.lt_of_lt_of_le h1 h.size)).trans (h.block i h1 h2)⟩
theorem Keeps.drew (h : Keeps P u v) : Keeps P u v.drew := ⟨h.os, h.tape, h.output, h.size, h.block⟩
theorem Keeps.set (h : Keeps P u v) {b : Nat} (hb : P b ∨ u.heap.size ≤ b) (i : Nat) (x : Value) : Keeps P u (v.setCell ⟨b, i, none⟩ x) :=
  ⟨h.os, h.tape, h.output, by simpa [World.setCell] using h.size, fun k h1 h2 => (Below.heap_setCell _ _ _ _ (by rintro rfl; rcases hb with hb | hb; exact h2 hb; omega)).trans (h.block k h1 h2)⟩
theorem Keeps.mono (h : Keeps P u v) (hPQ : ∀ k, k < u.heap.size → P k → Q k) : Keeps Q u v := ⟨h.os, h.tape, h.output, h.size, fun k h1 h2 => h.block k h1 (fun hp => h2 (hPQ k h1 hp))⟩
theorem Keeps.step (h : Keeps P u v) (k : Keeps Q v w) (hQ : ∀ i, Q i → P i ∨ u.heap.size ≤ i) : Keeps P u w :=
  ⟨k.os.trans h.os, k.tape.trans h.tape, k.output.trans h.output, Nat.le_trans h.size k.size, fun i h1 h2 => (k.block i (Nat.lt_of_lt_of_le h1 h.size) (fun hq => by rcases hQ i hq with h' | h'; exact h2 h'; omega)).trans (h.block i h1 h2)⟩
theorem Keeps.below {B : Nat} (h : Keeps P u v) (hP : ∀ k, P k → B ≤ k) (hB : B ≤ u.heap.size) : Below B u v :=
  ⟨h.os, h.tape, h.output, h.size, fun k hk => h.block k (by omega) (fun hp => by have := hP k hp; omega)⟩
theorem Below.keeps (h : Below u.heap.size u v) (P : Nat → Prop) : Keeps P u v := ⟨h.os, h.tape, h.output, h.size, fun k h1 _ => h.block k h1⟩
end

end Go.Proofs.YtflcbbikfdahhaaDoor
