/-
  term.Name, term.none and the reference's Name, noType: the walks.
-/
import Derived.Test.YtflcbbikfdahhaaDoorProg
import Derived.Test.YtflcbbikfdahhaaDoorOkName
import Derived.Test.YtflcbbikfdahhaaDoorStack
namespace Go.Proofs.YtflcbbikfdahhaaDoor
open Go Go.RowKit
set_option linter.unusedSimpArgs false
set_option linter.unusedVariables false

theorem ret_bool {a b : Bool} (h : a = b) : Ending.returned (.bool a) = .returned (.bool b) := by rw [h]
def okByte (c : UInt8) : Bool := isLow c || isOther c
theorem okName_eq (s : ByteArray) : okName s = (decide (1 ≤ s.size) && decide (s.size ≤ 30) && isLow (s.data.toList.headD 0) && s.data.toList.all okByte) := rfl
theorem all_snoc (s : ByteArray) (k : Nat) (h : k < s.size) : (s.data.toList.take (k + 1)).all okByte = ((s.data.toList.take k).all okByte && okByte s[k]) := by
  rw [List.take_succ_eq_append_getElem (by simpa using h)]; simp; rfl
theorem head_at (s : ByteArray) (h : 0 < s.size) : s.data.toList.headD 0 = s[0] := by
  obtain ⟨⟨l⟩⟩ := s
  cases l with
  | nil => simp [ByteArray.size] at h
  | cons a l => rfl
theorem all_bad (s : ByteArray) (k : Nat) (h : k < s.size) (hb : okByte s[k] = false) : s.data.toList.all okByte = false := by
  rw [List.all_eq_false]
  refine ⟨s[k], ?_, by simp [hb]⟩
  have : s[k] = s.data.toList[k]'(by simpa using h) := rfl
  rw [this]; exact List.getElem_mem _

set_option maxRecDepth 100000 in
set_option maxHeartbeats 1600000 in
theorem name_any (s : ByteArray) (w : World) (hs : s.size ≤ maxLen) :
    Calls Tryd.prog 67 #[.string s] w fun e w' => e = .returned (.bool (okName s)) ∧ w = w' := by
  unfold maxLen at hs
  have HF : Hid (∀ b, okName s = b → Ending.returned (.bool b) = .returned (.bool (okName s))) := Lib.hid (fun b h => by rw [h])
  by_cases h1 : s.size = 0
  · have f := HF.out false (by simp [okName, h1])
    have F := Lib.hid f
    clear f HF
    have h2 : ((s.size : Int) == 0) = true := by simp [h1]
    clear h1
    go_enter Tryd.func67, Tryd.ntmps67
    go_wp2_with fail
    go_returns
    exact ⟨F.out, rfl⟩
  have h1' : ((s.size : Int) == 0) = false := beq_eq_false_iff_ne.2 (by omega)
  have h1p : 0 < s.size := by omega
  by_cases h2 : 30 < s.size
  · have f := HF.out false (by rw [okName, decide_eq_false (show ¬ s.size ≤ 30 by omega)]; simp)
    have F := Lib.hid f
    clear f HF h1
    go_enter Tryd.func67, Tryd.ntmps67
    go_wp2_with fail
    go_returns
    exact ⟨F.out, rfl⟩
  have hh := head_at s h1p
  by_cases h3 : isLow s[0] = true
  case neg =>
    have f := HF.out false (by rw [okName, hh]; simp [h3])
    have F := Lib.hid f
    have h4 : s[0].toNat < 97 ∨ 122 < s[0].toNat := by simp [isLow] at h3; omega
    clear f HF h1 hh h3
    rcases h4 with h4 | h4
    all_goals
      go_enter Tryd.func67, Tryd.ntmps67
      go_wp2_with fail
      go_returns
      exact ⟨F.out, rfl⟩
  have h4 : 97 ≤ s[0].toNat ∧ s[0].toNat ≤ 122 := by simpa [isLow] using h3
  obtain ⟨h4, h5⟩ := h4
  have hok : okName s = s.data.toList.all okByte := by rw [okName_eq, hh, h3]; simp; omega
  have HOK := Lib.hid hok
  clear hok h3 hh h1
  go_enter Tryd.func67, Tryd.ntmps67
  go_wp2_with fail
  go_loop [25] (fun i => ∃ k : Nat, k ≤ s.size ∧ i = .int .i64 k ∧ (s.data.toList.take k).all okByte = true) (fun i => s.size - (intOf i).toNat)
  case atStart => exact ⟨0, Nat.zero_le _, rfl, rfl⟩
  case round =>
    obtain ⟨k, hk, rfl, hall⟩ := hrel
    have HALL := Lib.hid hall
    clear hall
    by_cases hlt : k < s.size
    · have hsn := all_snoc s k hlt
      have HSN := Lib.hid hsn
      have HB : Hid (okByte s[k] = false → Ending.returned (.bool false) = .returned (.bool (okName s))) := Lib.hid (fun h => HF.out false (by rw [HOK.out]; exact all_bad s k hlt h))
      clear hsn
      by_cases hb : okByte s[k] = true
      · have hcase : (97 ≤ s[k].toNat ∧ s[k].toNat ≤ 122) ∨ ((48 ≤ s[k].toNat ∧ s[k].toNat ≤ 57)) ∨ s[k].toNat = 95 ∨ s[k].toNat = 45 := by
          simp [okByte, isLow, isOther] at hb; omega
        have HBB := Lib.hid hb
        clear hb
        go_wp2_with fail
        all_goals first
          | (exfalso; (try simp only [Bool.not_eq_true', Bool.not_eq_false', beq_eq_false_iff_ne, beq_iff_eq, ne_eq, decide_eq_true_eq, decide_eq_false_iff_not] at *) <;> omega)
          | (go_round
             case rel => exact ⟨k + 1, by omega, by go_num, by rw [HSN.out, HALL.out, HBB.out]; rfl⟩
             case measure => simp [intOf]; omega)
      · have HBF := Lib.hid (HB.out (by simpa using hb))
        have hcase : ¬ (97 ≤ s[k].toNat ∧ s[k].toNat ≤ 122) ∧ ¬ ((48 ≤ s[k].toNat ∧ s[k].toNat ≤ 57)) ∧ s[k].toNat ≠ 95 ∧ s[k].toNat ≠ 45 := by
          simp [okByte, isLow, isOther] at hb; omega
        clear hb
        go_wp2_with fail
        all_goals first
          | (exfalso; (try simp only [Bool.not_eq_true', Bool.not_eq_false', beq_eq_false_iff_ne, beq_iff_eq, ne_eq, decide_eq_true_eq, decide_eq_false_iff_not] at *) <;> omega)
          | (go_returns
             exact ⟨HBF.out, rfl⟩)
    · go_wp2_with fail
      go_returns
      refine ⟨HF.out true ?_, rfl⟩
      have hks : s.data.toList.take k = s.data.toList := List.take_of_length_le (by simp; omega)
      rw [HOK.out, ← hks]; exact HALL.out

set_option maxRecDepth 100000 in
set_option maxHeartbeats 1600000 in
theorem refName_any (s : ByteArray) (w : World) (hs : s.size ≤ maxLen) :
    Calls Tryd.prog 71 #[.string s] w fun e w' => e = .returned (.bool (okName s)) ∧ w = w' := by
  unfold maxLen at hs
  have HF : Hid (∀ b, okName s = b → Ending.returned (.bool b) = .returned (.bool (okName s))) := Lib.hid (fun b h => by rw [h])
  by_cases h1 : s.size = 0
  · have f := HF.out false (by simp [okName, h1])
    have F := Lib.hid f
    clear f HF
    have h2 : ((s.size : Int) < 1) := by simp [h1]
    clear h1
    go_enter Tryd.func71, Tryd.ntmps71
    go_wp2_with fail
    go_returns
    exact ⟨F.out, rfl⟩
  have h1' : ¬ ((s.size : Int) < 1) := by omega
  have h1p : 0 < s.size := by omega
  by_cases h2 : 30 < s.size
  · have f := HF.out false (by rw [okName, decide_eq_false (show ¬ s.size ≤ 30 by omega)]; simp)
    have F := Lib.hid f
    clear f HF h1
    go_enter Tryd.func71, Tryd.ntmps71
    go_wp2_with fail
    go_returns
    exact ⟨F.out, rfl⟩
  have hh := head_at s h1p
  have hok : okName s = (isLow s[0] && s.data.toList.all okByte) := by rw [okName_eq, hh, decide_eq_true (show 1 ≤ s.size by omega), decide_eq_true (show s.size ≤ 30 by omega)]; rfl
  have HOK := Lib.hid hok
  clear hok hh h1
  go_enter Tryd.func71, Tryd.ntmps71
  go_wp2_with fail
  go_loop [3] (fun i => ∃ k : Nat, k ≤ s.size ∧ i = .int .i64 k ∧ (s.data.toList.take k).all okByte = true ∧ (0 < k → isLow s[0] = true)) (fun i => s.size - (intOf i).toNat)
  case atStart => exact ⟨0, Nat.zero_le _, rfl, rfl, by omega⟩
  case round =>
    obtain ⟨k, hk, rfl, hall, hlo⟩ := hrel
    have HALL := Lib.hid hall
    have HLO := Lib.hid hlo
    clear hall hlo
    by_cases hlt : k < s.size
    · have hsn := all_snoc s k hlt
      have HSN := Lib.hid hsn
      have HB : Hid (okByte s[k] = false → Ending.returned (.bool false) = .returned (.bool (okName s))) := Lib.hid (fun h => HF.out false (by rw [HOK.out, all_bad s k hlt h, Bool.and_false]))
      have HB0 : Hid (k = 0 → isLow s[k] = false → Ending.returned (.bool false) = .returned (.bool (okName s))) := Lib.hid (fun h0 h => HF.out false (by subst h0; rw [HOK.out, h, Bool.false_and]))
      have HG : Hid (k = 0 → isLow s[k] = true → isLow s[0] = true) := Lib.hid (fun h0 h => by subst h0; exact h)
      clear hsn
      have q0 : (0 : Int) ≤ (k : Int) := by omega
      have q1 : (k : Int) < (s.size : Int) := by omega
      by_cases hl : isLow s[k] = true
      · have h6 : 97 ≤ s[k].toNat ∧ s[k].toNat ≤ 122 := by simpa [isLow] using hl
        obtain ⟨h6, h7⟩ := h6
        have HL := Lib.hid hl
        clear hl
        go_wp2_with fail
        all_goals first
          | (exfalso; (try simp only [Bool.not_eq_true', Bool.not_eq_false', beq_eq_false_iff_ne, beq_iff_eq, ne_eq, decide_eq_true_eq, decide_eq_false_iff_not] at *) <;> omega)
          | (go_round
             case rel => exact ⟨k + 1, by omega, by go_num, by rw [HSN.out, HALL.out]; simp [okByte, HL.out], fun _ => by
               by_cases h0 : k = 0
               · exact HG.out h0 HL.out
               · exact HLO.out (by omega)⟩
             case measure => simp [intOf]; omega)
      have h6 : ¬ (97 ≤ s[k].toNat ∧ s[k].toNat ≤ 122) := by simpa [isLow] using hl
      have HL := Lib.hid (show isLow s[k] = false by simpa using hl)
      clear hl
      by_cases h0 : k = 0
      · have HFIN := Lib.hid (HB0.out h0 HL.out)
        have h0' : ((k : Int) == 0) = true := by simp [h0]
        clear h0
        go_wp2_with fail
        all_goals first
          | (exfalso; (try simp only [Bool.not_eq_true', Bool.not_eq_false', beq_eq_false_iff_ne, beq_iff_eq, ne_eq, decide_eq_true_eq, decide_eq_false_iff_not] at *) <;> omega)
          | (go_returns
             exact ⟨HFIN.out, rfl⟩)
      have h0' : ((k : Int) == 0) = false := beq_eq_false_iff_ne.2 (by omega)
      by_cases hb : isOther s[k] = true
      · have hcase : ((48 ≤ s[k].toNat ∧ s[k].toNat ≤ 57)) ∨ s[k].toNat = 95 ∨ s[k].toNat = 45 := by
          simp [isOther] at hb; omega
        have HBB := Lib.hid hb
        clear hb
        go_wp2_with fail
        all_goals first
          | (exfalso; (try simp only [Bool.not_eq_true', Bool.not_eq_false', beq_eq_false_iff_ne, beq_iff_eq, ne_eq, decide_eq_true_eq, decide_eq_false_iff_not] at *) <;> omega)
          | (go_round
             case rel => exact ⟨k + 1, by omega, by go_num, by rw [HSN.out, HALL.out]; simp [okByte, HBB.out], fun _ => HLO.out (by omega)⟩
             case measure => simp [intOf]; omega)
      · have HBF := Lib.hid (HB.out (by simp [okByte, HL.out, hb]))
        have hcase : ¬ ((48 ≤ s[k].toNat ∧ s[k].toNat ≤ 57)) ∧ s[k].toNat ≠ 95 ∧ s[k].toNat ≠ 45 := by
          simp [isOther] at hb; omega
        clear hb
        go_wp2_with fail
        all_goals first
          | (exfalso; (try simp only [Bool.not_eq_true', Bool.not_eq_false', beq_eq_false_iff_ne, beq_iff_eq, ne_eq, decide_eq_true_eq, decide_eq_false_iff_not] at *) <;> omega)
          | (go_returns
             exact ⟨HBF.out, rfl⟩)
    · go_wp2_with fail
      go_returns
      refine ⟨HF.out true ?_, rfl⟩
      have hks : s.data.toList.take k = s.data.toList := List.take_of_length_le (by simp; omega)
      rw [HOK.out, HLO.out (by omega), ← hks, HALL.out]; rfl

end Go.Proofs.YtflcbbikfdahhaaDoor
