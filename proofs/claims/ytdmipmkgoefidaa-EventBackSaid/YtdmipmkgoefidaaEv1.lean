/- The contracts of words. -/
import Derived.Test.YtdmipmkgoefidaaBits4
namespace Go.Proofs.Ytdmipmkgoefidaa.Ev
open Go.RowKit Mem Bits
set_option linter.unusedSimpArgs false
set_option linter.unusedVariables false
set_option maxRecDepth 100000

def smallB (c : Nat) : Bool := decide (97 ≤ c) && decide (c ≤ 122)
def digB (c : Nat) : Bool := (decide (48 ≤ c) && decide (c ≤ 57)) || decide (c = 95)
def goodB (s : ByteArray) (i : Nat) : Bool := smallB (Bt.byt s i) || (decide (0 < i) && digB (Bt.byt s i))
def wordB (s : ByteArray) : Bool := (List.range s.size).all (goodB s) && decide (1 ≤ s.size) && decide (s.size ≤ 16)

theorem word_bad (s : ByteArray) (i : Nat) (hi : i < s.size) (h : goodB s i = false) : wordB s = false := by
  unfold wordB
  have : (List.range s.size).all (goodB s) = false := by
    rw [List.all_eq_false]
    exact ⟨i, List.mem_range.2 hi, by rw [h]; simp⟩
  rw [this]; rfl
theorem word_good (s : ByteArray) (h : ∀ i, i < s.size → goodB s i = true) : wordB s = (decide (1 ≤ s.size) && decide (s.size ≤ 16)) := by
  unfold wordB
  have : (List.range s.size).all (goodB s) = true := by
    rw [List.all_eq_true]
    intro i hi
    exact h i (List.mem_range.1 hi)
  rw [this, Bool.true_and]

/-- How a byte stands: each way that the walk can go. -/
theorem byte_cases (c i : Nat) : (97 ≤ c ∧ c ≤ 122) ∨ (c ≤ 122 ∧ c < 97 ∧ i = 0) ∨ (122 < c ∧ i = 0) ∨ (0 < i ∧ c < 48) ∨ (0 < i ∧ 48 ≤ c ∧ c ≤ 57) ∨ (0 < i ∧ 57 < c ∧ c < 95) ∨ (0 < i ∧ c = 95) ∨ (0 < i ∧ 95 < c ∧ c < 97) ∨ (0 < i ∧ 122 < c) := by omega

theorem good_cases (s : ByteArray) (i : Nat) (c : Nat) (h : Bt.byt s i = c) :
    ((97 ≤ c ∧ c ≤ 122) → goodB s i = true) ∧ ((c ≤ 122 ∧ c < 97 ∧ i = 0) → goodB s i = false) ∧ ((122 < c ∧ i = 0) → goodB s i = false) ∧ ((0 < i ∧ c < 48) → goodB s i = false) ∧ ((0 < i ∧ 48 ≤ c ∧ c ≤ 57) → goodB s i = true) ∧ ((0 < i ∧ 57 < c ∧ c < 95) → goodB s i = false) ∧ ((0 < i ∧ c = 95) → goodB s i = true) ∧ ((0 < i ∧ 95 < c ∧ c < 97) → goodB s i = false) ∧ ((0 < i ∧ 122 < c) → goodB s i = false) := by
  unfold goodB smallB digB
  rw [h]
  refine ⟨?_, ?_, ?_, ?_, ?_, ?_, ?_, ?_, ?_⟩ <;> intro h <;> rw [Bool.eq_iff_iff] <;> simp <;> omega

set_option maxHeartbeats 1000000 in
theorem word_calls (s : ByteArray) (hs : s.size ≤ 140737488355328) (w : World) : Calls Try.prog 11 #[.string s] w fun e w' => e = .returned (.bool (wordB s)) ∧ w = w' := by
  have hs' : (s.size : Int) ≤ 140737488355328 := by omega
  go_enter Try.func11, Try.ntmps11
  go_wp2_with fail
  go_loop [7] (fun vj => ∃ j : Nat, j ≤ s.size ∧ vj = .int .i64 (j : Int) ∧ Hid (∀ i, i < j → goodB s i = true)) (fun vj => s.size + 1 - (intOf vj).toNat)
  case atStart => exact ⟨0, by omega, rfl, Lib.hid (fun i hi => by omega)⟩
  case round =>
    obtain ⟨j, hj, rfl, HA⟩ := hrel
    by_cases hlt : j < s.size
    · have hlt' : (j : Int) < s.size := by omega
      have HLT := Lib.hid hlt
      have hgc := good_cases s j (s[j]'hlt).toNat (Bt.byt_get s j hlt).symm
      have hw := byte_cases (s[j]'hlt).toNat j
      rcases hw with hw | hw | hw | hw | hw | hw | hw | hw | hw
      · obtain ⟨h1, h2⟩ := hw
        have HG := Lib.hid (hgc.1 ⟨h1, h2⟩)
        clear hgc
        have f0 : 97 ≤ ((s[j]'hlt).toNat : Int) := by omega
        have f1 : ((s[j]'hlt).toNat : Int) ≤ 122 := by omega
        clear h1 h2
        go_wp2_with fail
        go_round
        case rel => exact ⟨j + 1, by omega, by go_num, Lib.hid (fun i hi => by rcases (by omega : i < j ∨ i = j) with h | rfl; exact HA.out i h; exact HG.out)⟩
        case measure => simp [intOf]; omega
      · obtain ⟨h1, h2, h3⟩ := hw
        have HG := Lib.hid (hgc.2.1 ⟨h1, h2, h3⟩)
        clear hgc
        have hp : (j : Int) ≤ 0 := by omega
        have f0 : ((s[j]'hlt).toNat : Int) ≤ 122 := by omega
        have f1 : ((s[j]'hlt).toNat : Int) < 97 := by omega
        clear h1 h2 h3
        go_wp2_with fail
        go_ret
        exact ⟨by rw [word_bad s _ HLT.out HG.out]; try rfl, rfl⟩
      · obtain ⟨h1, h3⟩ := hw
        have HG := Lib.hid (hgc.2.2.1 ⟨h1, h3⟩)
        clear hgc
        have hp : (j : Int) ≤ 0 := by omega
        have f0 : 122 < ((s[j]'hlt).toNat : Int) := by omega
        have fd : decide (((s[j]'hlt).toNat : Int) ≤ 122) = false := decide_eq_false (by omega)
        have fe57 : decide (((s[j]'hlt).toNat : Int) ≤ 57) = false := decide_eq_false (by omega)
        clear h1 h3
        go_wp2_with fail
        go_ret
        exact ⟨by rw [word_bad s _ HLT.out HG.out]; try rfl, rfl⟩
      · obtain ⟨h3, h1⟩ := hw
        have HG := Lib.hid (hgc.2.2.2.1 ⟨h3, h1⟩)
        clear hgc
        have hp : 0 < (j : Int) := by omega
        have hpn : j ≠ 0 := by omega
        have f0 : ((s[j]'hlt).toNat : Int) < 48 := by omega
        have fe : (((s[j]'hlt).toNat : Int) == 95) = false := by rw [beq_eq_false_iff_ne]; omega
        clear h3 h1
        go_wp2_with fail
        go_ret
        exact ⟨by rw [word_bad s _ HLT.out HG.out]; try rfl, rfl⟩
      · obtain ⟨h3, h1, h2⟩ := hw
        have HG := Lib.hid (hgc.2.2.2.2.1 ⟨h3, h1, h2⟩)
        clear hgc
        have hp : 0 < (j : Int) := by omega
        have hpn : j ≠ 0 := by omega
        have f0 : 48 ≤ ((s[j]'hlt).toNat : Int) := by omega
        have f1 : ((s[j]'hlt).toNat : Int) ≤ 57 := by omega
        clear h3 h1 h2
        go_wp2_with fail
        go_round
        case rel => exact ⟨j + 1, by omega, by go_num, Lib.hid (fun i hi => by rcases (by omega : i < j ∨ i = j) with h | rfl; exact HA.out i h; exact HG.out)⟩
        case measure => simp [intOf]; omega
      · obtain ⟨h3, h1, h2⟩ := hw
        have HG := Lib.hid (hgc.2.2.2.2.2.1 ⟨h3, h1, h2⟩)
        clear hgc
        have hp : 0 < (j : Int) := by omega
        have hpn : j ≠ 0 := by omega
        have f0 : 57 < ((s[j]'hlt).toNat : Int) := by omega
        have fe57 : decide (((s[j]'hlt).toNat : Int) ≤ 57) = false := decide_eq_false (by omega)
        have f1 : ((s[j]'hlt).toNat : Int) < 95 := by omega
        have fe : (((s[j]'hlt).toNat : Int) == 95) = false := by rw [beq_eq_false_iff_ne]; omega
        clear h3 h1 h2
        go_wp2_with fail
        go_ret
        exact ⟨by rw [word_bad s _ HLT.out HG.out]; try rfl, rfl⟩
      · obtain ⟨h3, h1⟩ := hw
        have HG := Lib.hid (hgc.2.2.2.2.2.2.1 ⟨h3, h1⟩)
        clear hgc
        have hp : 0 < (j : Int) := by omega
        have hpn : j ≠ 0 := by omega
        have f0 : 95 ≤ ((s[j]'hlt).toNat : Int) := by omega
        have fe57 : decide (((s[j]'hlt).toNat : Int) ≤ 57) = false := decide_eq_false (by omega)
        have f1 : ((s[j]'hlt).toNat : Int) ≤ 95 := by omega
        have fe : (((s[j]'hlt).toNat : Int) == 95) = true := by rw [beq_iff_eq]; omega
        clear h3 h1
        go_wp2_with fail
        go_round
        case rel => exact ⟨j + 1, by omega, by go_num, Lib.hid (fun i hi => by rcases (by omega : i < j ∨ i = j) with h | rfl; exact HA.out i h; exact HG.out)⟩
        case measure => simp [intOf]; omega
      · obtain ⟨h3, h1, h2⟩ := hw
        have HG := Lib.hid (hgc.2.2.2.2.2.2.2.1 ⟨h3, h1, h2⟩)
        clear hgc
        have hp : 0 < (j : Int) := by omega
        have hpn : j ≠ 0 := by omega
        have f0 : 95 < ((s[j]'hlt).toNat : Int) := by omega
        have fe57 : decide (((s[j]'hlt).toNat : Int) ≤ 57) = false := decide_eq_false (by omega)
        have f1 : ((s[j]'hlt).toNat : Int) < 97 := by omega
        have fe : (((s[j]'hlt).toNat : Int) == 95) = false := by rw [beq_eq_false_iff_ne]; omega
        clear h3 h1 h2
        go_wp2_with fail
        go_ret
        exact ⟨by rw [word_bad s _ HLT.out HG.out]; try rfl, rfl⟩
      · obtain ⟨h3, h1⟩ := hw
        have HG := Lib.hid (hgc.2.2.2.2.2.2.2.2 ⟨h3, h1⟩)
        clear hgc
        have hp : 0 < (j : Int) := by omega
        have hpn : j ≠ 0 := by omega
        have f0 : 122 < ((s[j]'hlt).toNat : Int) := by omega
        have fd : decide (((s[j]'hlt).toNat : Int) ≤ 122) = false := decide_eq_false (by omega)
        have fe57 : decide (((s[j]'hlt).toNat : Int) ≤ 57) = false := decide_eq_false (by omega)
        have fe : (((s[j]'hlt).toNat : Int) == 95) = false := by rw [beq_eq_false_iff_ne]; omega
        clear h3 h1
        go_wp2_with fail
        go_ret
        exact ⟨by rw [word_bad s _ HLT.out HG.out]; try rfl, rfl⟩
    · obtain rfl : j = s.size := by omega
      have hwg := word_good s HA.out
      by_cases h0 : s.size = 0
      · have he := isEmpty_zero s h0
        have HF := Lib.hid (show wordB s = false by rw [hwg, h0]; rfl)
        clear hwg h0
        go_wp2_with fail
        go_ret
        exact ⟨ret_bool (by rw [HF.out]), rfl⟩
      · have he := isEmpty_size s (by omega)
        have HF := Lib.hid (show wordB s = decide (s.size ≤ 16) by rw [hwg, decide_eq_true (by omega : 1 ≤ s.size), Bool.true_and])
        clear hwg h0
        go_wp2_with fail
        go_ret
        exact ⟨ret_bool (by rw [HF.out, Bool.eq_iff_iff, decide_eq_true_iff, decide_eq_true_iff]; omega), rfl⟩

set_option maxHeartbeats 1000000 in
theorem refword_calls (s : ByteArray) (hs : s.size ≤ 140737488355328) (w : World) : Calls Try.prog 12 #[.string s] w fun e w' => e = .returned (.bool (wordB s)) ∧ w = w' := by
  have hs' : (s.size : Int) ≤ 140737488355328 := by omega
  go_enter Try.func12, Try.ntmps12
  go_wp2_with fail
  go_loop [3] (fun vj => ∃ j : Nat, j ≤ s.size ∧ vj = .int .i64 (j : Int) ∧ Hid (∀ i, i < j → goodB s i = true)) (fun vj => s.size + 1 - (intOf vj).toNat)
  case atStart => exact ⟨0, by omega, rfl, Lib.hid (fun i hi => by omega)⟩
  case round =>
    obtain ⟨j, hj, rfl, HA⟩ := hrel
    by_cases hlt : j < s.size
    · have hlt' : (j : Int) < s.size := by omega
      have HLT := Lib.hid hlt
      have hgc := good_cases s j (s[j]'hlt).toNat (Bt.byt_get s j hlt).symm
      have hw := byte_cases (s[j]'hlt).toNat j
      rcases hw with hw | hw | hw | hw | hw | hw | hw | hw | hw
      · obtain ⟨h1, h2⟩ := hw
        have HG := Lib.hid (hgc.1 ⟨h1, h2⟩)
        clear hgc
        have f0 : 97 ≤ ((s[j]'hlt).toNat : Int) := by omega
        have f1 : ((s[j]'hlt).toNat : Int) ≤ 122 := by omega
        clear h1 h2
        go_wp2_with fail
        go_round
        case rel => exact ⟨j + 1, by omega, by go_num, Lib.hid (fun i hi => by rcases (by omega : i < j ∨ i = j) with h | rfl; exact HA.out i h; exact HG.out)⟩
        case measure => simp [intOf]; omega
      · obtain ⟨h1, h2, h3⟩ := hw
        have HG := Lib.hid (hgc.2.1 ⟨h1, h2, h3⟩)
        clear hgc
        have hp : (j : Int) ≤ 0 := by omega
        have f0 : ((s[j]'hlt).toNat : Int) ≤ 122 := by omega
        have f1 : ((s[j]'hlt).toNat : Int) < 97 := by omega
        clear h1 h2 h3
        go_wp2_with fail
        go_ret
        exact ⟨by rw [word_bad s _ HLT.out HG.out]; try rfl, rfl⟩
      · obtain ⟨h1, h3⟩ := hw
        have HG := Lib.hid (hgc.2.2.1 ⟨h1, h3⟩)
        clear hgc
        have hp : (j : Int) ≤ 0 := by omega
        have f0 : 122 < ((s[j]'hlt).toNat : Int) := by omega
        have fd : decide (((s[j]'hlt).toNat : Int) ≤ 122) = false := decide_eq_false (by omega)
        have fe57 : decide (((s[j]'hlt).toNat : Int) ≤ 57) = false := decide_eq_false (by omega)
        clear h1 h3
        go_wp2_with fail
        go_ret
        exact ⟨by rw [word_bad s _ HLT.out HG.out]; try rfl, rfl⟩
      · obtain ⟨h3, h1⟩ := hw
        have HG := Lib.hid (hgc.2.2.2.1 ⟨h3, h1⟩)
        clear hgc
        have hp : 0 < (j : Int) := by omega
        have hpn : j ≠ 0 := by omega
        have f0 : ((s[j]'hlt).toNat : Int) < 48 := by omega
        have fe : (((s[j]'hlt).toNat : Int) == 95) = false := by rw [beq_eq_false_iff_ne]; omega
        clear h3 h1
        go_wp2_with fail
        go_ret
        exact ⟨by rw [word_bad s _ HLT.out HG.out]; try rfl, rfl⟩
      · obtain ⟨h3, h1, h2⟩ := hw
        have HG := Lib.hid (hgc.2.2.2.2.1 ⟨h3, h1, h2⟩)
        clear hgc
        have hp : 0 < (j : Int) := by omega
        have hpn : j ≠ 0 := by omega
        have f0 : 48 ≤ ((s[j]'hlt).toNat : Int) := by omega
        have f1 : ((s[j]'hlt).toNat : Int) ≤ 57 := by omega
        clear h3 h1 h2
        go_wp2_with fail
        go_round
        case rel => exact ⟨j + 1, by omega, by go_num, Lib.hid (fun i hi => by rcases (by omega : i < j ∨ i = j) with h | rfl; exact HA.out i h; exact HG.out)⟩
        case measure => simp [intOf]; omega
      · obtain ⟨h3, h1, h2⟩ := hw
        have HG := Lib.hid (hgc.2.2.2.2.2.1 ⟨h3, h1, h2⟩)
        clear hgc
        have hp : 0 < (j : Int) := by omega
        have hpn : j ≠ 0 := by omega
        have f0 : 57 < ((s[j]'hlt).toNat : Int) := by omega
        have fe57 : decide (((s[j]'hlt).toNat : Int) ≤ 57) = false := decide_eq_false (by omega)
        have f1 : ((s[j]'hlt).toNat : Int) < 95 := by omega
        have fe : (((s[j]'hlt).toNat : Int) == 95) = false := by rw [beq_eq_false_iff_ne]; omega
        clear h3 h1 h2
        go_wp2_with fail
        go_ret
        exact ⟨by rw [word_bad s _ HLT.out HG.out]; try rfl, rfl⟩
      · obtain ⟨h3, h1⟩ := hw
        have HG := Lib.hid (hgc.2.2.2.2.2.2.1 ⟨h3, h1⟩)
        clear hgc
        have hp : 0 < (j : Int) := by omega
        have hpn : j ≠ 0 := by omega
        have f0 : 95 ≤ ((s[j]'hlt).toNat : Int) := by omega
        have fe57 : decide (((s[j]'hlt).toNat : Int) ≤ 57) = false := decide_eq_false (by omega)
        have f1 : ((s[j]'hlt).toNat : Int) ≤ 95 := by omega
        have fe : (((s[j]'hlt).toNat : Int) == 95) = true := by rw [beq_iff_eq]; omega
        clear h3 h1
        go_wp2_with fail
        go_round
        case rel => exact ⟨j + 1, by omega, by go_num, Lib.hid (fun i hi => by rcases (by omega : i < j ∨ i = j) with h | rfl; exact HA.out i h; exact HG.out)⟩
        case measure => simp [intOf]; omega
      · obtain ⟨h3, h1, h2⟩ := hw
        have HG := Lib.hid (hgc.2.2.2.2.2.2.2.1 ⟨h3, h1, h2⟩)
        clear hgc
        have hp : 0 < (j : Int) := by omega
        have hpn : j ≠ 0 := by omega
        have f0 : 95 < ((s[j]'hlt).toNat : Int) := by omega
        have fe57 : decide (((s[j]'hlt).toNat : Int) ≤ 57) = false := decide_eq_false (by omega)
        have f1 : ((s[j]'hlt).toNat : Int) < 97 := by omega
        have fe : (((s[j]'hlt).toNat : Int) == 95) = false := by rw [beq_eq_false_iff_ne]; omega
        clear h3 h1 h2
        go_wp2_with fail
        go_ret
        exact ⟨by rw [word_bad s _ HLT.out HG.out]; try rfl, rfl⟩
      · obtain ⟨h3, h1⟩ := hw
        have HG := Lib.hid (hgc.2.2.2.2.2.2.2.2 ⟨h3, h1⟩)
        clear hgc
        have hp : 0 < (j : Int) := by omega
        have hpn : j ≠ 0 := by omega
        have f0 : 122 < ((s[j]'hlt).toNat : Int) := by omega
        have fd : decide (((s[j]'hlt).toNat : Int) ≤ 122) = false := decide_eq_false (by omega)
        have fe57 : decide (((s[j]'hlt).toNat : Int) ≤ 57) = false := decide_eq_false (by omega)
        have fe : (((s[j]'hlt).toNat : Int) == 95) = false := by rw [beq_eq_false_iff_ne]; omega
        clear h3 h1
        go_wp2_with fail
        go_ret
        exact ⟨by rw [word_bad s _ HLT.out HG.out]; try rfl, rfl⟩
    · obtain rfl : j = s.size := by omega
      have hwg := word_good s HA.out
      by_cases h0 : s.size = 0
      · have HF := Lib.hid (show wordB s = false by rw [hwg, h0]; rfl)
        have hz : (s.size : Int) < 1 := by omega
        clear hwg
        go_wp2_with fail
        go_ret
        exact ⟨ret_bool (by rw [HF.out]), rfl⟩
      · have HF := Lib.hid (show wordB s = decide (s.size ≤ 16) by rw [hwg, decide_eq_true (by omega : 1 ≤ s.size), Bool.true_and])
        have hz : 1 ≤ (s.size : Int) := by omega
        clear hwg h0
        go_wp2_with fail
        go_ret
        exact ⟨ret_bool (by rw [HF.out, Bool.eq_iff_iff, decide_eq_true_iff, decide_eq_true_iff]; omega), rfl⟩
end Go.Proofs.Ytdmipmkgoefidaa.Ev
