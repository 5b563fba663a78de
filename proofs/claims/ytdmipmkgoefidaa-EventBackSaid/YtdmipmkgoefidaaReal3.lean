/- The contracts of the reference's rounding. -/
import Derived.Test.YtdmipmkgoefidaaReal2
import Derived.Test.YtdmipmkgoefidaaFlR
namespace Go.Proofs.Ytdmipmkgoefidaa
open Go.RowKit
set_option linter.unusedSimpArgs false
set_option linter.unusedVariables false

theorem len_le64 (n : Nat) (h : n < 18446744073709551616) : Fl.len n ≤ 64 := Fl.len_le (j := 64) h

theorem length_calls (n : Nat) (hn : n < 18446744073709551616) (w : World) :
    Calls Try.prog 85 #[.int .u64 n] w fun e w' => e = .returned (.int .i64 (Fl.len n)) ∧ w = w' := by
  have h64 := len_le64 n hn
  go_enter Try.func85, Try.ntmps85
  go_wp2
  go_loop [0, 3] (fun a c => ∃ m k : Nat, a = .int .u64 m ∧ c = .int .i64 k ∧ m < 18446744073709551616 ∧ Hid (k + Fl.len m = Fl.len n)) (fun a _ => (intOf a).toNat)
  case atStart => exact ⟨n, 0, rfl, rfl, hn, Lib.hid (by omega)⟩
  case round =>
    obtain ⟨m, k, rfl, rfl, hm, HL⟩ := hrel
    have hk : k ≤ 64 := by have := HL.out; omega
    by_cases h0 : 0 < m
    · go_wp2
      go_round
      case rel =>
        refine ⟨m / 2, k + 1, ?_, by go_num, by omega, Lib.hid ?_⟩
        · first | rfl | go_num
        · have := HL.out; have := Fl.len_half h0; omega
      case measure => simp [intOf]; omega
    · have hz : Hid (m = 0) := Lib.hid (by omega)
      go_wp2
      go_ret
      refine ⟨ret_int ?_, rfl⟩
      have := HL.out; rw [hz.out, Fl.len_zero] at this; omega

theorem magnitude_calls (n : Int) (h1 : -9223372036854775808 ≤ n) (h2 : n ≤ 9223372036854775807) (w : World) :
    Calls Try.prog 83 #[.int .i64 n] w fun e w' => e = .returned (.int .u64 (n.natAbs : Int)) ∧ w = w' := by
  by_cases h : 0 ≤ n
  · go_enter Try.func83, Try.ntmps83
    go_wp2
    go_ret
    refine ⟨ret_int ?_, rfl⟩
    first | omega | (simp only [IntKind.wrap_u64]; omega)
  · have h' : n < 0 := by omega
    go_enter Try.func83, Try.ntmps83
    go_wp2
    go_ret
    refine ⟨ret_int ?_, rfl⟩
    first | omega | (simp only [IntKind.wrap_u64, wrap64]; omega)

theorem wrap_pow (j : Nat) (hj : j ≤ 63) : IntKind.u64.wrap (2 ^ j) = ((2 ^ j : Nat) : Int) := by
  have hp : 2 ^ j ≤ 2 ^ 63 := Nat.pow_le_pow_right (by decide) hj
  have hc : ((2 : Int) ^ j) = ((2 ^ j : Nat) : Int) := by push_cast; rfl
  rw [hc]
  generalize 2 ^ j = p at *
  exact IntWalk.u64_in _ (by omega)
theorem and_mask (n j : Nat) (hn : n < 18446744073709551616) (hj : j ≤ 63) : bits .and .u64 (n : Int) (IntKind.u64.wrap (IntKind.u64.wrap (2 ^ j) - 1)) = ((n % 2 ^ j : Nat) : Int) := by
  have hp : 2 ^ j ≤ 2 ^ 63 := Nat.pow_le_pow_right (by decide) hj
  have h0 : 0 < 2 ^ j := Nat.two_pow_pos j
  have hc : ((2 : Int) ^ j) = ((2 ^ j : Nat) : Int) := by push_cast; rfl
  rw [hc, IntWalk.u64_in ((2 ^ j : Nat) : Int) (by omega), IntWalk.u64_in (((2 ^ j : Nat) : Int) - 1) (by omega)]
  have e : ((2 ^ j : Nat) : Int) - 1 = ((2 ^ j - 1 : Nat) : Int) := by omega
  rw [e, bits_and_u64_nat n (2 ^ j - 1) hn (by omega), Nat.and_two_pow_sub_one_eq_mod]

theorem and_mant (n : Nat) (hn : n < 18446744073709551616) : bits .and .u64 (n : Int) 4503599627370495 = ((n % 4503599627370496 : Nat) : Int) := by
  have := bits_and_u64_nat n 4503599627370495 hn (by decide)
  rw [show ((4503599627370495 : Nat) : Int) = 4503599627370495 from rfl] at this
  rw [this, show (4503599627370495 : Nat) = 2 ^ 52 - 1 from rfl, Nat.and_two_pow_sub_one_eq_mod]

theorem fin_small (n x k : Nat) (e : Int) (hx : (x : Int) = 1022 + (k : Int) + e) (h2 : x ≤ 2045) (M : Nat) (hM : M < 9007199254740992) :
    IntKind.u64.wrap (IntKind.u64.wrap (IntKind.u64.wrap (1022 + (k : Int) + e) * 4503599627370496) + bits BinOp.and IntKind.u64 (IntKind.u64.wrap ((M : Nat) : Int)) 4503599627370495) = ((x * 4503599627370496 + M % 4503599627370496 : Nat) : Int) := by
  rw [← hx, IntWalk.u64_in (M : Int) (by omega), and_mant M (by omega), IntWalk.u64_in (x : Int) (by omega), IntWalk.u64_in ((x : Int) * 4503599627370496) (by omega), IntWalk.u64_in _ (by omega)]
  omega

theorem fin_big1 (x k low : Nat) (e : Int) (hx : (x : Int) = 1022 + (k : Int) + e) (h1 : 1 ≤ x) (h2 : x ≤ 2045) (hl : low < 9007199254740992) :
    IntKind.u64.wrap (IntKind.u64.wrap (IntKind.u64.wrap (IntKind.u64.wrap (1022 + (k : Int) + e) * 4503599627370496) + IntKind.u64.wrap ((low : Int) + 1)) - 4503599627370496) = ((x * 4503599627370496 + (low + 1) - 4503599627370496 : Nat) : Int) := by
  rw [← hx, IntWalk.u64_in (x : Int) (by omega), IntWalk.u64_in ((low : Int) + 1) (by omega), IntWalk.u64_in ((x : Int) * 4503599627370496) (by omega), IntWalk.u64_in ((x : Int) * 4503599627370496 + ((low : Int) + 1)) (by omega), IntWalk.u64_in _ (by omega)]
  omega
theorem fin_big0 (x k low : Nat) (e : Int) (hx : (x : Int) = 1022 + (k : Int) + e) (h1 : 1 ≤ x) (h2 : x ≤ 2045) (hl : low < 9007199254740992) :
    IntKind.u64.wrap (IntKind.u64.wrap (IntKind.u64.wrap (IntKind.u64.wrap (1022 + (k : Int) + e) * 4503599627370496) + (low : Int)) - 4503599627370496) = ((x * 4503599627370496 + low - 4503599627370496 : Nat) : Int) := by
  rw [← hx, IntWalk.u64_in (x : Int) (by omega), IntWalk.u64_in ((x : Int) * 4503599627370496) (by omega), IntWalk.u64_in ((x : Int) * 4503599627370496 + (low : Int)) (by omega), IntWalk.u64_in _ (by omega)]
  omega

set_option maxHeartbeats 800000 in
theorem rounded_calls (n : Nat) (hn : 0 < n) (hn' : n < 18446744073709551616) (e : Int) (more : Bool) (x : Nat) (hx : (x : Int) = 1022 + (Fl.len n : Int) + e) (h1 : 1 ≤ x) (h2 : x ≤ 2045) (w : World) :
    Calls Try.prog 84 #[.int .u64 n, .int .i64 e, .bool more] w fun e w' => e = .returned (.int .u64 (Fl.rnd n x more)) ∧ w = w' := by
  have hl := len_le64 n hn'
  have lc := fun w => length_calls n hn' w
  by_cases h : Fl.len n ≤ 53
  · have hM := (Fl.shifted_bd hn h).2
    have hr := Fl.rnd_small x more h
    generalize hk : Fl.len n = k at *
    have LC := Lib.hid lc
    have HX := Lib.hid hx
    have HR := Lib.hid hr
    have HM := Lib.hid hM
    have hxe : -2000 ≤ e ∧ e ≤ 2000 := by omega
    clear lc hk hx hr hM
    generalize Fl.rnd n x more = R at *
    go_enter Try.func84, Try.ntmps84
    go_wp2_with (go_at_call 85; refine (LC.out _).mono ?_; rintro e w' ⟨rfl, rfl⟩)
    go_ret
    refine ⟨ret_int ?_, rfl⟩
    rw [HR.out]
    have := fin_small n x k e HX.out h2 _ HM.out
    rw [← this]
    push_cast
    rfl
  · have hL := (Fl.low_bd (n := n) (by omega)).2
    have hru := Fl.rnd_up x more h
    have hrd := Fl.rnd_down x more h
    replace h : 53 < Fl.len n := by omega
    generalize hk : Fl.len n = k at *
    have h' : 53 < (k : Int) := by omega
    have ha := and_mask n (k - 53) hn' (by omega)
    have hh := wrap_pow (k - 53 - 1) (by omega)
    have hd : ((n : Int) / 2 ^ (k - 53)) = ((n / 2 ^ (k - 53) : Nat) : Int) := by push_cast; rfl
    generalize n / 2 ^ (k - 53) = low at *
    generalize n % 2 ^ (k - 53) = rest at *
    generalize 2 ^ (k - 53 - 1) = half at *
    have LC := Lib.hid lc
    have HX := Lib.hid hx
    have HU := Lib.hid hru
    have HD := Lib.hid hrd
    have HM := Lib.hid hL
    have hxe : -2000 ≤ e ∧ e ≤ 2000 := by omega
    clear lc hk hx hru hrd hL
    generalize Fl.rnd n x more = R at *
    have b1 : ((rest : Int) == (half : Int)) = (rest == half) := by rw [Bool.eq_iff_iff, beq_iff_eq, beq_iff_eq]; omega
    have b2 : ((low : Int) % 2 == 1) = decide (low % 2 = 1) := by rw [Bool.eq_iff_iff, beq_iff_eq, decide_eq_true_iff]; omega
    by_cases t1 : half < rest
    · have hu : Hid (Fl.up low rest half more = true) := Lib.hid (by unfold Fl.up; simp [t1])
      go_enter Try.func84, Try.ntmps84
      go_wp2_with (go_at_call 85; refine (LC.out _).mono ?_; rintro e w' ⟨rfl, rfl⟩)
      go_ret
      refine ⟨ret_int ?_, rfl⟩
      rw [HU.out hu.out]
      exact fin_big1 x k low e HX.out h1 h2 HM.out
    · by_cases t2 : rest < half
      · have hu : Hid (Fl.up low rest half more = false) := Lib.hid (by unfold Fl.up; simp; omega)
        have hq : (rest == half) = false := by rw [beq_eq_false_iff_ne]; omega
        rw [hq] at b1
        go_enter Try.func84, Try.ntmps84
        go_wp2_with (go_at_call 85; refine (LC.out _).mono ?_; rintro e w' ⟨rfl, rfl⟩)
        go_ret
        refine ⟨ret_int ?_, rfl⟩
        rw [HD.out hu.out]
        exact fin_big0 x k low e HX.out h1 h2 HM.out
      · have hq : (rest == half) = true := by rw [beq_iff_eq]; omega
        rw [hq] at b1
        cases hmo : more
        · subst hmo
          have B2 := Lib.hid b2
          clear b2
          go_enter Try.func84, Try.ntmps84
          go_wp2_with (go_at_call 85; refine (LC.out _).mono ?_; rintro e w' ⟨rfl, rfl⟩)
          all_goals
            go_ret
            refine ⟨ret_int ?_, rfl⟩
          · have tt : ((low : Int) % 2 == 1) = true := by assumption
            rw [B2.out, decide_eq_true_iff] at tt
            rw [HU.out (by unfold Fl.up; simp; omega)]
            exact fin_big1 x k low e HX.out h1 h2 HM.out
          · have tt : ((low : Int) % 2 == 1) = false := by assumption
            rw [B2.out, decide_eq_false_iff_not] at tt
            rw [HD.out (by unfold Fl.up; simp; omega)]
            exact fin_big0 x k low e HX.out h1 h2 HM.out
        · subst hmo
          have hu : Hid (Fl.up low rest half true = true) := Lib.hid (by unfold Fl.up; simp; omega)
          go_enter Try.func84, Try.ntmps84
          go_wp2_with (go_at_call 85; refine (LC.out _).mono ?_; rintro e w' ⟨rfl, rfl⟩)
          go_ret
          refine ⟨ret_int ?_, rfl⟩
          rw [HU.out hu.out]
          exact fin_big1 x k low e HX.out h1 h2 HM.out

theorem rounded0_calls (e : Int) (more : Bool) (w : World) :
    Calls Try.prog 84 #[.int .u64 0, .int .i64 e, .bool more] w fun e w' => e = .returned (.int .u64 0) ∧ w = w' := by
  go_enter Try.func84, Try.ntmps84
  go_wp2
  go_ret
  exact ⟨rfl, rfl⟩
end Go.Proofs.Ytdmipmkgoefidaa
