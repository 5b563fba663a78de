/- The contracts of whole numbers as real ones, and of their quotients. -/
import Derived.Test.YtdmipmkgoefidaaReal3
import Derived.Test.YtdmipmkgoefidaaFlD
namespace Go.Proofs.Ytdmipmkgoefidaa
open Go.RowKit
set_option linter.unusedSimpArgs false
set_option linter.unusedVariables false

theorem ret2 {a b c d : Value} (h1 : a = c) (h2 : b = d) : Ending.returned (.tuple #[a, b]) = .returned (.tuple #[c, d]) := by rw [h1, h2]
theorem ret3 {a b c d e f : Value} (h1 : a = d) (h2 : b = e) (h3 : c = f) : Ending.returned (.tuple #[a, b, c]) = .returned (.tuple #[d, e, f]) := by rw [h1, h2, h3]
theorem vint {k : IntKind} {a b : Int} (h : a = b) : Value.int k a = .int k b := by rw [h]
theorem vbool {a b : Bool} (h : a = b) : Value.bool a = .bool b := by rw [h]
theorem vfloat {k : FloatKind} {a b : Nat} (h : a = b) : Value.float k a = .float k b := by rw [h]

theorem lt63_calls (n : Int) (a : Nat) : (FloatKind.f64.format.order a 4890909195324358656 == some .lt) = Fl.ltB a Fl.C63 := Fl.order_is_lt a Fl.C63

theorem refwhole_calls (n : Int) (h1 : -9223372036854775808 ≤ n) (h2 : n ≤ 9223372036854775807) (w : World) :
    Calls Try.prog 79 #[.int .i64 n] w fun e w' => e = .returned (.tuple #[.int .u64 (Fl.wholeBits n), .bool (Fl.exactB n.natAbs)]) ∧ w = w' := by
  have mc := fun w => magnitude_calls n h1 h2 w
  have lc := fun w => length_calls n.natAbs (by omega) w
  have rc := fun w => (if h0 : n.natAbs = 0 then by rw [h0]; exact rounded0_calls 0 false w
    else by
      have hp : 0 < n.natAbs := by omega
      have hl : Fl.len n.natAbs ≤ 64 := Fl.len_le (j := 64) (by omega)
      have := rounded_calls n.natAbs hp (by omega) 0 false (1022 + Fl.len n.natAbs) (by omega) (by omega) (by omega) w
      have e : Fl.rungOf n.natAbs = Fl.rnd n.natAbs (1022 + Fl.len n.natAbs) false := by unfold Fl.rungOf; rw [if_neg h0]
      rw [e]; exact this : Calls Try.prog 84 #[.int .u64 n.natAbs, .int .i64 0, .bool false] w fun e w' => e = .returned (.int .u64 (Fl.rungOf n.natAbs)) ∧ w = w')
  have hbd : Fl.rungOf n.natAbs ≤ 1087 * Fl.B := by
    by_cases h : n.natAbs = 0
    · rw [h]; exact Nat.zero_le _
    · exact (Fl.rungOf_bd n.natAbs (by omega) (by omega)).2
  have hB : Fl.B = 4503599627370496 := rfl
  rw [hB] at hbd
  have hn64 : n.natAbs ≤ 9223372036854775808 := by omega
  have hl64 : Fl.len n.natAbs ≤ 64 := Fl.len_le (j := 64) (by omega)
  have hw : Fl.wholeBits n = if n < 0 then 9223372036854775808 + Fl.rungOf n.natAbs else Fl.rungOf n.natAbs := rfl
  have hx : Fl.exactB n.natAbs = (decide (Fl.len n.natAbs ≤ 53) || decide (n.natAbs % 2 ^ (Fl.len n.natAbs - 53) = 0)) := rfl
  have ha : ¬ Fl.len n.natAbs ≤ 53 → bits .and .u64 (n.natAbs : Int) (IntKind.u64.wrap (IntKind.u64.wrap (2 ^ (Fl.len n.natAbs - 53)) - 1)) = ((n.natAbs % 2 ^ (Fl.len n.natAbs - 53) : Nat) : Int) := fun h => and_mask _ _ (by omega) (by omega)
  generalize Fl.wholeBits n = W at *
  generalize Fl.exactB n.natAbs = X at *
  generalize Fl.rungOf n.natAbs = R at *
  generalize n.natAbs % 2 ^ (Fl.len n.natAbs - 53) = rest at *
  generalize Fl.len n.natAbs = k at *
  generalize n.natAbs = m at *
  have MC := Lib.hid mc
  have LC := Lib.hid lc
  have RC := Lib.hid rc
  clear mc lc rc hB
  by_cases h : k ≤ 53
  · clear ha
    have HX : Hid (X = true) := Lib.hid (by rw [hx]; simp [h])
    clear hx
    by_cases hn : n < 0
    · have HW : Hid ((W : Int) = (R : Int) + 9223372036854775808) := Lib.hid (by rw [hw, if_pos hn]; omega)
      clear hw
      go_enter Try.func79, Try.ntmps79
      go_wp2_with (first | (go_at_call 83; refine (MC.out _).mono ?_; rintro e w' ⟨rfl, rfl⟩) | (go_at_call 85; refine (LC.out _).mono ?_; rintro e w' ⟨rfl, rfl⟩) | (go_at_call 84; refine (RC.out _).mono ?_; rintro e w' ⟨rfl, rfl⟩))
      go_ret2
      refine ⟨ret2 (vint ?_) (vbool ?_), rfl⟩
      · first | exact HW.out.symm | (rw [HW.out]; done)
      · have hk : (k : Int) ≤ 53 ∨ ¬ (k : Int) ≤ 53 := by omega
        first | (rw [HX.out]; done) | (rw [HX.out]; rcases hk with hk | hk <;> simp [hk] <;> omega)
    · have HW : Hid (W = R) := Lib.hid (by rw [hw, if_neg hn])
      clear hw
      go_enter Try.func79, Try.ntmps79
      go_wp2_with (first | (go_at_call 83; refine (MC.out _).mono ?_; rintro e w' ⟨rfl, rfl⟩) | (go_at_call 85; refine (LC.out _).mono ?_; rintro e w' ⟨rfl, rfl⟩) | (go_at_call 84; refine (RC.out _).mono ?_; rintro e w' ⟨rfl, rfl⟩))
      go_ret2
      refine ⟨ret2 (vint ?_) (vbool ?_), rfl⟩
      · first | exact HW.out.symm | (rw [HW.out]; done)
      · have hk : (k : Int) ≤ 53 ∨ ¬ (k : Int) ≤ 53 := by omega
        first | (rw [HX.out]; done) | (rw [HX.out]; rcases hk with hk | hk <;> simp [hk] <;> omega)
  · have ha' := ha h
    clear ha
    have HX : Hid (X = ((rest : Int) == 0)) := Lib.hid (by rw [hx, Bool.eq_iff_iff, beq_iff_eq]; simp; omega)
    clear hx
    replace h : 53 < (k : Int) := by omega
    by_cases hn : n < 0
    · have HW : Hid ((W : Int) = (R : Int) + 9223372036854775808) := Lib.hid (by rw [hw, if_pos hn]; omega)
      clear hw
      go_enter Try.func79, Try.ntmps79
      go_wp2_with (first | (go_at_call 83; refine (MC.out _).mono ?_; rintro e w' ⟨rfl, rfl⟩) | (go_at_call 85; refine (LC.out _).mono ?_; rintro e w' ⟨rfl, rfl⟩) | (go_at_call 84; refine (RC.out _).mono ?_; rintro e w' ⟨rfl, rfl⟩))
      go_ret2
      refine ⟨ret2 (vint ?_) (vbool ?_), rfl⟩
      · first | exact HW.out.symm | (rw [HW.out]; done)
      · have hk : (k : Int) ≤ 53 ∨ ¬ (k : Int) ≤ 53 := by omega
        first | (rw [HX.out]; done) | (rw [HX.out]; rcases hk with hk | hk <;> simp [hk] <;> omega)
    · have HW : Hid (W = R) := Lib.hid (by rw [hw, if_neg hn])
      clear hw
      go_enter Try.func79, Try.ntmps79
      go_wp2_with (first | (go_at_call 83; refine (MC.out _).mono ?_; rintro e w' ⟨rfl, rfl⟩) | (go_at_call 85; refine (LC.out _).mono ?_; rintro e w' ⟨rfl, rfl⟩) | (go_at_call 84; refine (RC.out _).mono ?_; rintro e w' ⟨rfl, rfl⟩))
      go_ret2
      refine ⟨ret2 (vint ?_) (vbool ?_), rfl⟩
      · first | exact HW.out.symm | (rw [HW.out]; done)
      · have hk : (k : Int) ≤ 53 ∨ ¬ (k : Int) ≤ 53 := by omega
        first | (rw [HX.out]; done) | (rw [HX.out]; rcases hk with hk | hk <;> simp [hk] <;> omega)

end Go.Proofs.Ytdmipmkgoefidaa
