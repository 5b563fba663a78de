/- The contracts of quotients. -/
import Derived.Test.YtobifcffgkagbaaReal4
import Derived.Test.YtobifcffgkagbaaFlP
namespace Go.Proofs.Ytobifcffgkagbaa
open Go.RowKit
set_option linter.unusedSimpArgs false
set_option linter.unusedVariables false

theorem part_calls (p q : Int) (p1 : -9223372036854775808 ≤ p) (p2 : p ≤ 9223372036854775807) (q1 : -9223372036854775808 ≤ q) (q2 : q ≤ 9223372036854775807) (h : p ≠ 0 ∨ q ≠ 0) (w : World) :
    Calls Try.prog 21 #[.int .i64 p, .int .i64 q] w fun e w' => e = .returned (.float .f64 (Fl.partBits p q)) ∧ w = w' := by
  have hp := Fl.whole_nearest p p1 p2
  have hq := Fl.whole_nearest q q1 q2
  have hd := fun w => run_float_arith (P := Try.prog) w .quo 22 .f64 _ _ _ (Fl.div_whole p q p1 p2 q1 q2 h)
  generalize Fl.wholeBits p = a at *
  generalize Fl.wholeBits q = b at *
  generalize Fl.partBits p q = r at *
  clear h
  go_enter Try.func21, Try.ntmps21
  go_wp2
  go_ret
  exact ⟨rfl, rfl⟩

theorem run_nan (w : World) : ∃ f, Fl.nanB f = true ∧ (binOp .quo 22 (.float .f64 0) (.float .f64 0)).run Try.prog w = .ok (.float .f64 f) w.drew := by
  refine ⟨_, ?_, rfl⟩
  generalize World.tape w w.drawn _ = t
  show Fl.nanB ((t % 2) * 2 ^ 63 + 0x7ff0000000000000 + 1 + (t / 2) % (2 ^ 52 - 1)) = true
  rw [Fl.nanB_iff, decide_eq_true_iff]
  have h2 : (t / 2) % 4503599627370495 < 4503599627370495 := Nat.mod_lt _ (by decide)
  have h1 : t % 2 < 2 := Nat.mod_lt _ (by decide)
  rw [show (2 : Nat) ^ 52 - 1 = 4503599627370495 from rfl, show (2 : Nat) ^ 63 = 9223372036854775808 from rfl]
  generalize (t / 2) % 4503599627370495 = u at *
  omega

theorem part0_calls (w : World) :
    Calls Try.prog 21 #[.int .i64 0, .int .i64 0] w fun e w' => ∃ f, Fl.nanB f = true ∧ e = .returned (.float .f64 f) ∧ w.drew = w' := by
  obtain ⟨f, hf, hr⟩ := run_nan w
  have hp : floatOfInt .f64 0 = 0 := by decide +kernel
  go_enter Try.func21, Try.ntmps21
  go_wp2
  go_ret
  exact ⟨f, hf, rfl, rfl⟩

theorem xor_top (a b : Nat) (ha : a < 18446744073709551616) (hb : b < 18446744073709551616) :
    bits .and .u64 (bits .xor .u64 (a : Int) (b : Int)) 9223372036854775808 = ((Fl.signOf (Fl.neg a ^^ Fl.neg b) : Nat) : Int) := by
  rw [bits_xor_u64_nat a b ha hb, and_top _ (by exact Nat.xor_lt_two_pow (n := 64) ha hb)]
  have e : (a ^^^ b) / 9223372036854775808 = a / 9223372036854775808 ^^^ b / 9223372036854775808 := Nat.xor_div_two_pow (n := 63)
  rw [e, Fl.neg_iff a ha, Fl.neg_iff b hb]
  have ca : a / 9223372036854775808 = 0 ∧ ¬ 9223372036854775808 ≤ a ∨ a / 9223372036854775808 = 1 ∧ 9223372036854775808 ≤ a := by omega
  have cb : b / 9223372036854775808 = 0 ∧ ¬ 9223372036854775808 ≤ b ∨ b / 9223372036854775808 = 1 ∧ 9223372036854775808 ≤ b := by omega
  rcases ca with ⟨a1, a2⟩ | ⟨a1, a2⟩ <;> rcases cb with ⟨b1, b2⟩ | ⟨b1, b2⟩ <;> rw [a1, b1] <;> simp only [a2, b2, decide_true, decide_false] <;> decide

theorem top_sign (a : Nat) (ha : a < 18446744073709551616) : bits .and .u64 (a : Int) 9223372036854775808 = ((Fl.signOf (Fl.neg a) : Nat) : Int) := by
  rw [and_top a ha, Fl.neg_iff a ha]
  have ca : a / 9223372036854775808 = 0 ∧ ¬ 9223372036854775808 ≤ a ∨ a / 9223372036854775808 = 1 ∧ 9223372036854775808 ≤ a := by omega
  rcases ca with ⟨a1, a2⟩ | ⟨a1, a2⟩ <;> rw [a1] <;> simp only [a2, decide_true, decide_false] <;> decide

def refPart (p q : Int) : Nat := if p = 0 ∧ q = 0 then 9221120237041090561 else Fl.partBits p q

end Go.Proofs.Ytobifcffgkagbaa
