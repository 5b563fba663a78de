/- The contracts of 'may' and the texts of values. -/
import Derived.Test.YtdmipmkgoefidaaEv1
import Derived.Test.YtdmipmkgoefidaaEvH5
import Derived.Test.YtdmipmkgoefidaaBits7
namespace Go.Proofs.Ytdmipmkgoefidaa.Ev
open Go.RowKit Mem Bits EvH
set_option linter.unusedSimpArgs false
set_option linter.unusedVariables false
set_option maxRecDepth 100000

/-- May a value be? -/
def mayB (k n : Int) (f : Nat) (s : ByteArray) : Bool :=
  if k = 1 then ((f : Int) == 0) && decide (s.size = 0) else if k = 2 then (n == 0) && decide (s.size = 0) else if k = 3 then (n == 0) && (((f : Int) == 0) && decide (s.size ≤ 64)) else false

theorem str_zero (s : ByteArray) : (s.size = 0 ∧ s.toList.isEmpty = true ∧ (!s.toList.isEmpty) = false ∧ decide (s.size = 0) = true) ∨ (0 < s.size ∧ s.toList.isEmpty = false ∧ (!s.toList.isEmpty) = true ∧ decide (s.size = 0) = false) := by
  by_cases h : s.size = 0
  · have := isEmpty_zero s h
    left; exact ⟨h, by simp_all, by simp_all, by simp [h]⟩
  · have := isEmpty_size s (by omega)
    right; exact ⟨by omega, by simp_all, by simp_all, by simp [h]⟩

set_option maxHeartbeats 1000000 in
theorem may_calls (k n : Int) (f : Nat) (s : ByteArray) (hs : s.size ≤ 140737488355328) (w : World) :
    Calls Try.prog 27 #[valV k n f s] w fun e w' => e = .returned (.bool (mayB k n f s)) ∧ Mod w w' [] := by
  have hs' : (s.size : Int) ≤ 140737488355328 := by omega
  have hb0 := Blk.new w #[.int .i64 k, .int .i64 n, .float .f64 f, .string s] 42
  have hm0 := (Mod.refl w []).alloc (.cells #[.int .i64 k, .int .i64 n, .float .f64 f, .string s] 42)
  have HB0 := Lib.hid hb0
  have HM0 := Lib.hid hm0
  clear hb0 hm0
  have hk : k = 1 ∨ k = 2 ∨ k = 3 ∨ (k ≠ 1 ∧ k ≠ 2 ∧ k ≠ 3) := by omega
  rcases hk with rfl | rfl | rfl | ⟨o1, o2, o3⟩
  · have e : mayB 1 n f s = (((f : Int) == 0) && decide (s.size = 0)) := rfl
    rw [e]
    clear e
    rcases str_zero s with ⟨_, z1, z2, z3⟩ | ⟨_, z1, z2, z3⟩ <;> rw [z3] <;> cases zf : ((f : Int) == 0)
    all_goals
      go_enter Try.func27, Try.ntmps27
      go_wp2_with fail
      generalize w.alloc _ = W at HB0 HM0 ⊢
      obtain ⟨a0, a1, a2, a3⟩ := BlkA HB0.out
      (refine wp_region_quiet_after (by kernel_rfl) (by kernel_rfl) ?_; (repeat (go_big_quiet_step (fail))); refine wpQuiet_nil ?_; intro _ hw'; obtain ⟨⟨wq, hmq⟩, hw''⟩ := hw'; subst hw'')
      have M1 := Lib.hid (HM0.out.trans0 hmq)
      obtain ⟨c0, c1, c2, c3⟩ := Blk4 (HB0.out.mod hmq (by simp))
      clear a0 a1 a2 a3 hmq
      go_wp2_with fail
      go_ret
      exact ⟨rfl, M1.out⟩
  · have e : mayB 2 n f s = ((n == 0) && decide (s.size = 0)) := rfl
    rw [e]
    clear e
    rcases str_zero s with ⟨_, z1, z2, z3⟩ | ⟨_, z1, z2, z3⟩ <;> rw [z3] <;> cases zf : (n == 0)
    all_goals
      go_enter Try.func27, Try.ntmps27
      go_wp2_with fail
      generalize w.alloc _ = W at HB0 HM0 ⊢
      obtain ⟨a0, a1, a2, a3⟩ := BlkA HB0.out
      (refine wp_region_quiet_after (by kernel_rfl) (by kernel_rfl) ?_; (repeat (go_big_quiet_step (fail))); refine wpQuiet_nil ?_; intro _ hw'; obtain ⟨⟨wq, hmq⟩, hw''⟩ := hw'; subst hw'')
      have M1 := Lib.hid (HM0.out.trans0 hmq)
      obtain ⟨c0, c1, c2, c3⟩ := Blk4 (HB0.out.mod hmq (by simp))
      clear a0 a1 a2 a3 hmq
      go_wp2_with fail
      go_ret
      exact ⟨rfl, M1.out⟩
  · have e : mayB 3 n f s = ((n == 0) && (((f : Int) == 0) && decide (s.size ≤ 64))) := rfl
    rw [e]
    clear e
    have hl : decide (s.size ≤ 64) = decide ((s.size : Int) ≤ 64) := by rw [decide_eq_decide]; omega
    rw [hl]
    clear hl
    cases zn : (n == 0) <;> cases zf : ((f : Int) == 0) <;> cases zl : decide ((s.size : Int) ≤ 64)
    all_goals
      go_enter Try.func27, Try.ntmps27
      go_wp2_with fail
      generalize w.alloc _ = W at HB0 HM0 ⊢
      obtain ⟨a0, a1, a2, a3⟩ := BlkA HB0.out
      (refine wp_region_quiet_after (by kernel_rfl) (by kernel_rfl) ?_; (repeat (go_big_quiet_step (fail))); refine wpQuiet_nil ?_; intro _ hw'; obtain ⟨⟨wq, hmq⟩, hw''⟩ := hw'; subst hw'')
      have M1 := Lib.hid (HM0.out.trans0 hmq)
      obtain ⟨c0, c1, c2, c3⟩ := Blk4 (HB0.out.mod hmq (by simp))
      clear a0 a1 a2 a3 hmq
      go_wp2_with fail
      go_ret
      exact ⟨rfl, M1.out⟩
  · have e : mayB k n f s = false := by unfold mayB; rw [if_neg o1, if_neg o2, if_neg o3]
    rw [e]
    have h1 : (k == 1) = false := by rw [beq_eq_false_iff_ne]; exact o1
    have h2 : (k == 2) = false := by rw [beq_eq_false_iff_ne]; exact o2
    have h3 : (k == 3) = false := by rw [beq_eq_false_iff_ne]; exact o3
    clear e o1 o2 o3
    go_enter Try.func27, Try.ntmps27
    go_wp2_with fail
    generalize w.alloc _ = W at HB0 HM0 ⊢
    obtain ⟨a0, a1, a2, a3⟩ := BlkA HB0.out
    (refine wp_region_quiet_after (by kernel_rfl) (by kernel_rfl) ?_; (repeat (go_big_quiet_step (fail))); refine wpQuiet_nil ?_; intro _ hw'; obtain ⟨⟨wq, hmq⟩, hw''⟩ := hw'; subst hw'')
    have M1 := Lib.hid (HM0.out.trans0 hmq)
    obtain ⟨c0, c1, c2, c3⟩ := Blk4 (HB0.out.mod hmq (by simp))
    clear a0 a1 a2 a3 hmq
    go_wp2_with fail
    go_ret
    exact ⟨rfl, M1.out⟩
end Go.Proofs.Ytdmipmkgoefidaa.Ev
