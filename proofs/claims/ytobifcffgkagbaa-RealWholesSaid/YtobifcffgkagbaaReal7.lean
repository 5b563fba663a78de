/- The contract of the chapter's example. -/
import Derived.Test.YtobifcffgkagbaaReal6
namespace Go.Proofs.Ytobifcffgkagbaa
open Go.RowKit
set_option linter.unusedSimpArgs false
set_option linter.unusedVariables false

theorem rnan_calls (w : World) : Calls Try.prog 50 #[] w fun e w' => e = .returned (.float .f64 9221120237041090561) ∧ w = w' := by
  go_enter Try.func50, Try.ntmps50
  go_wp2
  go_ret
  exact ⟨rfl, rfl⟩

theorem awake_calls (w : World) : Calls Try.prog 15 #[] w fun e w' => e = .returned (.bool true) ∧ w = w' := by
  have c1 := fun w => whole_calls 9007199254740993 (by decide) (by decide) w
  rw [show Fl.wholeBits 9007199254740993 = 4845873199050653696 by decide +kernel, show Fl.exactB (Int.natAbs 9007199254740993) = false by decide +kernel] at c1
  have c2 := fun w => rank_calls 0 (by decide) w
  rw [show Fl.rankB 0 = 9223372036854775808 by decide +kernel] at c2
  have c3 := fun w => holds_calls 2 9221120237041090561 4607182418800017408 w
  rw [show Fl.holdsB 2 9221120237041090561 4607182418800017408 = true by decide +kernel] at c3
  have c4 := fun w => part_calls 1 2 (by decide) (by decide) (by decide) (by decide) (by decide) w
  rw [show Fl.partBits 1 2 = 4602678819172646912 by decide +kernel] at c4
  have e1 : Fl.eqB 4845873199050653696 4845873199050653696 = true := by decide +kernel
  have e2 : Fl.eqB 4602678819172646912 4602678819172646912 = true := by decide +kernel
  have C1 := Lib.hid c1
  have C2 := Lib.hid c2
  have C3 := Lib.hid c3
  have C4 := Lib.hid c4
  clear c1 c2 c3 c4
  go_enter Try.func15, Try.ntmps15
  go_wp2_with (first | (go_at_call 18; refine (C1.out _).mono ?_; rintro e w' ⟨rfl, rfl⟩) | (go_at_call 25; refine (C2.out _).mono ?_; rintro e w' ⟨rfl, rfl⟩) | (go_at_call 16; refine (C3.out _).mono ?_; rintro e w' ⟨rfl, rfl⟩) | (go_at_call 21; refine (C4.out _).mono ?_; rintro e w' ⟨rfl, rfl⟩) | (go_at_call 50; refine (rnan_calls _).mono ?_; rintro e w' ⟨rfl, rfl⟩))
  go_ret
  exact ⟨rfl, rfl⟩

theorem wf_i64 {n : Int} (h : (Lit.int .i64 n).wf = true) : -9223372036854775808 ≤ n ∧ n ≤ 9223372036854775807 := by simpa [Lit.wf, IntKind.min, IntKind.max, IntKind.signed, IntKind.bits] using h
theorem wf_f64 {n : Nat} (h : (Lit.float .f64 n).wf = true) : n < 18446744073709551616 := by simpa [Lit.wf] using h

theorem realHolds_calls (op : Int) (_ : (Lit.int .i64 op).wf = true) (a : Nat) (ha' : (Lit.float .f64 a).wf = true) (b : Nat) (hb' : (Lit.float .f64 b).wf = true) (w : World) :
    Calls Try.prog 3 #[.int .i64 op, .float .f64 a, .float .f64 b] w fun e w' => e = .returned (.bool true) ∧ Below w.heap.size w w' := by
  have ha := wf_f64 ha'
  have hb := wf_f64 hb'
  go_enter Try.func3, Try.ntmps3
  go_wp2_with (first | (go_at_call 15; refine (awake_calls _).mono ?_; rintro e w' ⟨rfl, rfl⟩) | (go_at_call 16; refine (holds_calls _ _ _ _).mono ?_; rintro e w' ⟨rfl, rfl⟩) | (go_at_call 17; refine (refholds_calls _ _ _ (by assumption) (by assumption) _).mono ?_; rintro e w' ⟨rfl, rfl⟩))
  go_ret
  exact ⟨ret_bool (by simp), Below.refl _ _⟩
end Go.Proofs.Ytobifcffgkagbaa
