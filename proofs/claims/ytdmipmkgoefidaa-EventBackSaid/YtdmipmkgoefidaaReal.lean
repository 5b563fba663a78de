/- The contracts of package real and of its reference: order and comparison. -/
import Derived.Test.YtdmipmkgoefidaaFl
import Derived.Test.YtdmipmkgoefidaaProg
import Derived.WalkKit
import Derived.WalkSpells
import Derived.WalkLawsBesides
import Derived.KernelRfl
import Derived.Lib.Hide
import Derived.Deep.RegionWith
namespace Go.Proofs.Ytdmipmkgoefidaa
open Go.RowKit
set_option linter.unusedSimpArgs false
set_option linter.unusedVariables false

theorem ret_int {k : IntKind} {a b : Int} (h : a = b) : Ending.returned (.int k a) = .returned (.int k b) := by rw [h]
theorem ret_bool {a b : Bool} (h : a = b) : Ending.returned (.bool a) = .returned (.bool b) := by rw [h]

theorem run_bits (a : Nat) (w : World) : (callFunc 52 #[.float .f64 a]).run Try.prog w = .ok (.value (.int .u64 a)) w := by kernel_rfl
theorem run_frombits (a : Int) (w : World) : (callFunc 72 #[.int .u64 a]).run Try.prog w = .ok (.value (.float .f64 a.toNat)) w := by kernel_rfl
theorem self_ne (a : Nat) : (FloatKind.f64.format.order a a != some .eq) = Fl.nanB a := Fl.self_ne a
theorem order_is_eq (a b : Nat) : (FloatKind.f64.format.order a b == some .eq) = Fl.eqB a b := Fl.order_is_eq a b
theorem order_is_ne (a b : Nat) : (FloatKind.f64.format.order a b != some .eq) = !Fl.eqB a b := by rw [← Fl.order_is_eq a b]; rfl
theorem order_is_lt (a b : Nat) : (FloatKind.f64.format.order a b == some .lt) = Fl.ltB a b := Fl.order_is_lt a b
theorem order_is_gt (a b : Nat) : (FloatKind.f64.format.order a b == some .gt) = Fl.ltB b a := Fl.order_is_gt a b
attribute [go_sem] run_bits run_frombits self_ne order_is_eq order_is_lt order_is_gt
theorem and_top (a : Nat) (ha : a < 18446744073709551616) : bits .and .u64 (a : Int) 9223372036854775808 = ((a / 9223372036854775808 % 2 * 9223372036854775808 : Nat) : Int) := by
  have := bits_and_u64_nat a 9223372036854775808 ha (by decide)
  rw [show ((9223372036854775808 : Nat) : Int) = 9223372036854775808 from rfl] at this
  rw [this, show (9223372036854775808 : Nat) = 2 ^ 63 from rfl, nat_bit]
theorem or_top (a : Nat) (ha : a < 9223372036854775808) : bits .or .u64 (a : Int) 9223372036854775808 = 9223372036854775808 + (a : Int) := by
  have := bits_or_u64_nat a 9223372036854775808 (by omega) (by decide)
  rw [show ((9223372036854775808 : Nat) : Int) = 9223372036854775808 from rfl] at this
  rw [this, Nat.or_comm, nat_join 63 9223372036854775808 a (by decide) ha]
  omega
theorem xor_max (a : Nat) (ha : a < 18446744073709551616) : bits .xor .u64 IntKind.u64.max (a : Int) = 18446744073709551615 - (a : Int) := by
  have h := bits_xor_u64_nat 18446744073709551615 a (by decide) ha
  have e : IntKind.u64.max = ((18446744073709551615 : Nat) : Int) := by decide
  rw [e, h]
  have : 18446744073709551615 ^^^ a = 18446744073709551615 - a := by
    have h1 : (~~~ (BitVec.ofNat 64 a)).toNat = 18446744073709551615 - a := by
      rw [BitVec.toNat_not, BitVec.toNat_ofNat, Nat.mod_eq_of_lt ha]
    rw [← h1, ← BitVec.allOnes_xor, BitVec.toNat_xor, BitVec.toNat_ofNat, Nat.mod_eq_of_lt ha]
    rfl
  rw [this]; omega
theorem and_low (a : Nat) (ha : a < 18446744073709551616) : bits .and .u64 (a : Int) 9223372036854775807 = ((a % 9223372036854775808 : Nat) : Int) := by
  have := bits_and_u64_nat a 9223372036854775807 ha (by decide)
  rw [show ((9223372036854775807 : Nat) : Int) = 9223372036854775807 from rfl] at this
  rw [this, show (9223372036854775807 : Nat) = 2 ^ 63 - 1 from rfl, Nat.and_two_pow_sub_one_eq_mod]

theorem nan_calls (a : Nat) (w : World) :
    Calls Try.prog 60 #[.int .u64 a] w fun e w' => e = .returned (.bool (Fl.nanB a)) ∧ w = w' := by
  go_enter Try.func60, Try.ntmps60
  go_wp2
  go_ret
  refine ⟨ret_bool ?_, rfl⟩
  rw [Fl.nanB_iff, decide_eq_decide, IntKind.wrap_u64]; omega

theorem size_calls (a : Nat) (ha : a < 18446744073709551616) (w : World) :
    Calls Try.prog 78 #[.int .u64 a] w fun e w' => e = .returned (.int .u64 ((a % 9223372036854775808 : Nat) : Int)) ∧ w = w' := by
  have h := and_low a ha
  have H := Lib.hid h; clear h
  go_enter Try.func78, Try.ntmps78
  go_wp2
  go_ret
  exact ⟨ret_int H.out, rfl⟩

theorem holds_calls (op : Int) (a b : Nat) (w : World) :
    Calls Try.prog 59 #[.int .i64 op, .float .f64 a, .float .f64 b] w fun e w' => e = .returned (.bool (Fl.holdsB op a b)) ∧ w = w' := by
  have ho : op = 1 ∨ op = 2 ∨ op = 3 ∨ op = 4 ∨ op = 5 ∨ op = 6 ∨ (op ≠ 1 ∧ op ≠ 2 ∧ op ≠ 3 ∧ op ≠ 4 ∧ op ≠ 5 ∧ op ≠ 6) := by omega
  rcases ho with rfl | rfl | rfl | rfl | rfl | rfl | ⟨o1, o2, o3, o4, o5, o6⟩
  case inr.inr.inr.inr.inr.inr =>
    have h1 : (op == 1) = false := by rw [beq_eq_false_iff_ne]; exact o1
    have h2 : (op == 2) = false := by rw [beq_eq_false_iff_ne]; exact o2
    have h3 : (op == 3) = false := by rw [beq_eq_false_iff_ne]; exact o3
    have h4 : (op == 4) = false := by rw [beq_eq_false_iff_ne]; exact o4
    have h5 : (op == 5) = false := by rw [beq_eq_false_iff_ne]; exact o5
    have h6 : (op == 6) = false := by rw [beq_eq_false_iff_ne]; exact o6
    have hf : Fl.holdsB op a b = false := by unfold Fl.holdsB; simp [o1, o2, o3, o4, o5, o6]
    rw [hf]
    clear hf o1 o2 o3 o4 o5 o6
    go_enter Try.func59, Try.ntmps59
    go_wp2
    go_ret
    exact ⟨rfl, rfl⟩
  all_goals
    cases h1 : Fl.ltB a b <;> cases h2 : Fl.ltB b a <;> cases h3 : Fl.eqB a b
  all_goals
    simp only [Fl.holdsB, h1, h2, h3]
    have e1 := order_is_ne a b
    rw [h3] at e1
    go_enter Try.func59, Try.ntmps59
    go_wp2
    go_ret
    exact ⟨rfl, rfl⟩

theorem below_calls (a b : Nat) (ha : a < 18446744073709551616) (hb : b < 18446744073709551616) (w : World) :
    Calls Try.prog 61 #[.int .u64 a, .int .u64 b] w fun e w' => e = .returned (.bool (Fl.belowB a b)) ∧ w = w' := by
  rw [Fl.below_eq' a b ha hb]
  have e1 : ((a : Int) / 9223372036854775808 == 1) = decide (9223372036854775808 ≤ a) := by rw [Bool.eq_iff_iff, beq_iff_eq, decide_eq_true_iff]; omega
  have e2 : ((b : Int) / 9223372036854775808 == 1) = decide (9223372036854775808 ≤ b) := by rw [Bool.eq_iff_iff, beq_iff_eq, decide_eq_true_iff]; omega
  have sa := fun w => size_calls a ha w
  have sb := fun w => size_calls b hb w
  generalize a % 9223372036854775808 = x at *
  generalize b % 9223372036854775808 = y at *
  generalize decide (9223372036854775808 ≤ a) = s at *
  generalize decide (9223372036854775808 ≤ b) = t at *
  have SA := Lib.hid sa
  have SB := Lib.hid sb
  clear sa sb
  cases s <;> cases t <;> cases hx : ((x : Int) == 0) <;> cases hy : ((y : Int) == 0)
  all_goals
    go_enter Try.func61, Try.ntmps61
    go_wp2_with (first | (go_at_call_of 78 (Value.int .u64 ↑a); refine (SA.out _).mono ?_; rintro e w' ⟨rfl, rfl⟩) | (go_at_call_of 78 (Value.int .u64 ↑b); refine (SB.out _).mono ?_; rintro e w' ⟨rfl, rfl⟩))
    go_ret
    refine ⟨ret_bool ?_, rfl⟩
    simp only [beq_iff_eq, beq_eq_false_iff_ne] at hx hy
    unfold Fl.belowS
    simp
    try omega
end Go.Proofs.Ytdmipmkgoefidaa
