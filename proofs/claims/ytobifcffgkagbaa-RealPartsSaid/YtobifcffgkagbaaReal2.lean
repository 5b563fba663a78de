/- The contracts of the reference's comparison, and of the least and the most of some real numbers. -/
import Derived.Test.YtobifcffgkagbaaReal
namespace Go.Proofs.Ytobifcffgkagbaa
open Go.RowKit
set_option linter.unusedSimpArgs false
set_option linter.unusedVariables false

theorem int_beq (x y : Int) : (x == y) = decide (x = y) := by rw [Bool.eq_iff_iff, beq_iff_eq, decide_eq_true_iff]

theorem refholds_calls (op : Int) (a b : Nat) (ha : a < 18446744073709551616) (hb : b < 18446744073709551616) (w : World) :
    Calls Try.prog 17 #[.int .i64 op, .float .f64 a, .float .f64 b] w fun e w' => e = .returned (.bool (Fl.holdsB op a b)) ∧ w = w' := by
  have hf := Fl.holds_ref op a b
  have na := fun w => nan_calls a w
  have nb := fun w => nan_calls b w
  have sa := fun w => below_calls a b ha hb w
  have sb := fun w => below_calls b a hb ha w
  generalize Fl.nanB a = xa at *
  generalize Fl.nanB b = xb at *
  generalize Fl.belowB a b = ya at *
  generalize Fl.belowB b a = yb at *
  have HF := Lib.hid hf
  have NA := Lib.hid na
  have NB := Lib.hid nb
  have SA := Lib.hid sa
  have SB := Lib.hid sb
  clear hf na nb sa sb
  cases xa <;> cases xb
  all_goals
    go_enter Try.func17, Try.ntmps17
    go_wp2_with (first | (go_at_call_of 23 (Value.int .u64 ↑a); refine (NA.out _).mono ?_; rintro e w' ⟨rfl, rfl⟩) | (go_at_call_of 23 (Value.int .u64 ↑b); refine (NB.out _).mono ?_; rintro e w' ⟨rfl, rfl⟩) | (go_at_call 51; (first | (with_reducible refine (SA.out _).mono ?_) | (with_reducible refine (SB.out _).mono ?_)); rintro e w' ⟨rfl, rfl⟩))
    all_goals
      go_ret
      refine ⟨ret_bool ?_, rfl⟩
      rw [HF.out]
      first | (simp; done) | (simp_all; done) | (simp [int_beq]; done) | (cases ya <;> cases yb <;> simp_all [int_beq])
end Go.Proofs.Ytobifcffgkagbaa
