/- The contract of the reference's Holds. -/
import Derived.Test.YtdmipmkgoefidaaEvH5
namespace Go.Proofs.Ytdmipmkgoefidaa.EvH
open Go.RowKit Mem
set_option linter.unusedSimpArgs false
set_option linter.unusedVariables false
set_option maxRecDepth 100000

set_option maxHeartbeats 2000000 in
theorem refHoldsV_calls (op k n : Int) (f : Nat) (s : ByteArray) (k' n' : Int) (f' : Nat) (s' : ByteArray) (b1 : -9223372036854775808 ≤ n) (b2 : n ≤ 9223372036854775807) (b3 : -9223372036854775808 ≤ n') (b4 : n' ≤ 9223372036854775807) (hf : f < 18446744073709551616) (hf' : f' < 18446744073709551616) (w : World) :
    Calls Try.prog 19 #[.int .i64 op, valV k n f s, valV k' n' f' s'] w fun e w' => e = .returned (.bool (holdsV op k n f s k' n' f' s')) ∧ Mod w w' [] := by
  unfold holdsV
  by_cases hk : 1 ≤ k ∧ k ≤ 3
  case neg =>
    rw [decide_eq_false hk]
    rcases (by omega : k < 1 ∨ (1 ≤ k ∧ 3 < k)) with h | ⟨h, h'⟩
    all_goals
      clear hk
      go_enter Try.func19, Try.ntmps19
      go_wp2_with fail
      go_ret
      exact ⟨rfl, ((Mod.refl _ _).alloc _).alloc _⟩
  by_cases hk' : 1 ≤ k' ∧ k' ≤ 3
  case neg =>
    rw [decide_eq_false hk', decide_eq_true hk]
    obtain ⟨hk1, hk2⟩ := hk
    rcases (by omega : k' < 1 ∨ (1 ≤ k' ∧ 3 < k')) with h | ⟨h, h'⟩
    all_goals
      clear hk'
      go_enter Try.func19, Try.ntmps19
      go_wp2_with fail
      go_ret
      exact ⟨rfl, ((Mod.refl _ _).alloc _).alloc _⟩
  have SC := Lib.hid (fun w => refStands_calls k n f s k' n' f' s' hk hk' b1 b2 b3 b4 hf hf' w)
  have hW := stW_bd k n f s k' n' f' s'
  generalize stW k n f s k' n' f' s' = W at *
  rw [decide_eq_true hk', decide_eq_true hk]
  rw [Bool.true_and, Bool.true_and]
  obtain ⟨hk1, hk2⟩ := hk
  obtain ⟨hk3, hk4⟩ := hk'
  clear b1 b2 b3 b4 hf hf'
  have hW' : W = 0 ∨ W = 1 ∨ W = 2 ∨ W = 3 := by omega
  clear hW
  have hop : op = 1 ∨ op = 2 ∨ op = 3 ∨ op = 4 ∨ op = 5 ∨ op = 6 ∨ (op ≠ 1 ∧ op ≠ 2 ∧ op ≠ 3 ∧ op ≠ 4 ∧ op ≠ 5 ∧ op ≠ 6) := by omega
  rcases hop with rfl | rfl | rfl | rfl | rfl | rfl | ⟨o1, o2, o3, o4, o5, o6⟩
  case inr.inr.inr.inr.inr.inr =>
    have h1 : (op == 1) = false := by rw [beq_eq_false_iff_ne]; exact o1
    have h2 : (op == 2) = false := by rw [beq_eq_false_iff_ne]; exact o2
    have h3 : (op == 3) = false := by rw [beq_eq_false_iff_ne]; exact o3
    have h4 : (op == 4) = false := by rw [beq_eq_false_iff_ne]; exact o4
    have h5 : (op == 5) = false := by rw [beq_eq_false_iff_ne]; exact o5
    have h6 : (op == 6) = false := by rw [beq_eq_false_iff_ne]; exact o6
    have hf : signB op W = false := by unfold signB; simp [o1, o2, o3, o4, o5, o6]
    rw [hf]
    clear hf o1 o2 o3 o4 o5 o6
    rcases hW' with rfl | rfl | rfl | rfl
    all_goals
      simp only [refW, Int.reduceEq, if_true, if_false, Int.reduceSub] at SC
      go_enter Try.func19, Try.ntmps19
      go_wp2_with fail
      refine (SC.out _).mono ?_
      rintro e w1 ⟨rfl, hm1⟩
      go_wp2_with fail
      go_ret
      exact ⟨rfl, (((Mod.refl _ _).alloc _).alloc _).trans0 hm1⟩
  all_goals
    rcases hW' with rfl | rfl | rfl | rfl
  all_goals
    simp only [signB, Int.reduceEq, if_true, if_false, Int.reduceBEq, Int.reduceBNe, Bool.or_self, Bool.or_true, Bool.true_or, Bool.false_or, Bool.or_false]
    simp only [refW, Int.reduceEq, if_true, if_false, Int.reduceSub] at SC
    go_enter Try.func19, Try.ntmps19
    go_wp2_with fail
    refine (SC.out _).mono ?_
    rintro e w1 ⟨rfl, hm1⟩
    go_wp2_with fail
    go_ret
    exact ⟨rfl, (((Mod.refl _ _).alloc _).alloc _).trans0 hm1⟩
end Go.Proofs.Ytdmipmkgoefidaa.EvH
