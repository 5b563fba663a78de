/- The contracts of the comparison of a whole number with a real one. -/
import Derived.Test.YtdmipmkgoefidaaEvH1
namespace Go.Proofs.Ytdmipmkgoefidaa.EvH
open Go.RowKit
set_option linter.unusedSimpArgs false
set_option linter.unusedVariables false

theorem trunc_calls (a : Nat) (h : Fl.rung a < Fl.I) (hq : Fl.part a ≤ 9223372036854775808) (w : World) : Calls Try.prog 76 #[.float .f64 a] w fun e w' => e = .returned (.float .f64 (Fl.truncB a)) ∧ w = w' := by
  have hr := fun w => run_trunc a w h hq
  generalize Fl.truncB a = t at *
  clear h hq
  go_enter Try.func76, Try.ntmps76
  go_wp2
  go_ret
  exact ⟨rfl, rfl⟩

theorem C63_eq : Fl.C63 = 4890909195324358656 := rfl
theorem CM63_eq : Fl.CM63 = 14114281232179134464 := rfl

/-- How a whole number and a real one stand. -/
def mixW (n : Int) (f : Nat) : Int := if Fl.nanB f then 0 else 2 + cmpI (Fl.NV n) (Fl.SV f)

theorem mixW_nan (n : Int) (f : Nat) (h : Fl.nanB f = true) : mixW n f = 0 := by unfold mixW; rw [h]; rfl
theorem mixW_num (n : Int) (f : Nat) (h : Fl.nanB f = false) : mixW n f = 2 + cmpI (Fl.NV n) (Fl.SV f) := by unfold mixW; rw [h]; rfl
theorem cmpI_lt {x y : Int} (h : x < y) : cmpI x y = -1 := by unfold cmpI; rw [if_pos h]
theorem cmpI_gt {x y : Int} (h : y < x) : cmpI x y = 1 := by unfold cmpI; rw [if_neg (by omega), if_neg (by omega)]
theorem cmpI_eq {x y : Int} (h : x = y) : cmpI x y = 0 := by unfold cmpI; rw [if_neg (by omega), if_pos h]

theorem NV_lt63 (n : Int) (h1 : -9223372036854775808 ≤ n) (h2 : n ≤ 9223372036854775807) : Fl.NV n < Fl.NV 9223372036854775808 ∧ Fl.NV (-9223372036854775808) ≤ Fl.NV n := by
  constructor
  · rw [Fl.NV_lt]; omega
  · have := Fl.NV_lt n (-9223372036854775808); omega

theorem above63 (n : Int) (f : Nat) (h1 : -9223372036854775808 ≤ n) (h2 : n ≤ 9223372036854775807) (hn : Fl.nanB f = false) (h : Fl.ltB Fl.C63 f = true ∨ Fl.eqB f Fl.C63 = true) : Fl.NV n < Fl.SV f := by
  have h63 := (NV_lt63 n h1 h2).1
  unfold Fl.ltB Fl.eqB at h
  rw [hn, show Fl.nanB Fl.C63 = false by decide] at h
  simp only [Bool.not_false, Bool.true_and, decide_eq_true_iff] at h
  rw [Fl.SV_lt, Fl.SV_eq, Fl.SV_C63] at h
  omega
theorem belowM63 (n : Int) (f : Nat) (h1 : -9223372036854775808 ≤ n) (h2 : n ≤ 9223372036854775807) (hn : Fl.nanB f = false) (h : Fl.ltB f Fl.CM63 = true) : Fl.SV f < Fl.NV n := by
  have h63 := (NV_lt63 n h1 h2).2
  unfold Fl.ltB at h
  rw [hn, show Fl.nanB Fl.CM63 = false by decide] at h
  simp only [Bool.not_false, Bool.true_and, decide_eq_true_iff] at h
  rw [Fl.SV_lt, Fl.SV_CM63] at h
  omega
theorem cmpF_eq (a b : Nat) (ha : Fl.nanB a = false) (hb : Fl.nanB b = false) : cmpF a b = cmpI (Fl.SV a) (Fl.SV b) := by
  unfold cmpF cmpI Fl.ltB
  rw [ha, hb]
  simp only [Bool.not_false, Bool.true_and, decide_eq_true_iff, Fl.SV_lt]
  by_cases h : Fl.SV a < Fl.SV b
  · rw [if_pos h, if_pos h]
  · rw [if_neg h, if_neg h]
    by_cases h2 : Fl.SV b < Fl.SV a
    · rw [if_pos h2, if_neg (by omega)]
    · rw [if_neg h2, if_pos (by omega)]
theorem cmpI_bd (x y : Int) : -1 ≤ cmpI x y ∧ cmpI x y ≤ 1 := by
  rcases cmp_cases x y with ⟨_, e⟩ | ⟨_, e⟩ | ⟨_, e⟩ <;> rw [e] <;> decide

theorem mixed_calls (n : Int) (f : Nat) (h1 : -9223372036854775808 ≤ n) (h2 : n ≤ 9223372036854775807) (w : World) : Calls Try.prog 58 #[.int .i64 n, .float .f64 f] w fun e w' => e = .returned (.int .i64 (mixW n f)) ∧ w = w' := by
  cases hn : Fl.nanB f
  case true =>
    rw [mixW_nan n f hn]
    go_enter Try.func58, Try.ntmps58
    go_wp2_with fail
    go_ret
    exact ⟨rfl, rfl⟩
  rw [mixW_num n f hn]
  cases c1 : Fl.ltB 4890909195324358656 f
  case true =>
    rw [cmpI_lt (above63 n f h1 h2 hn (.inl c1))]
    go_enter Try.func58, Try.ntmps58
    go_wp2_with fail
    go_ret
    exact ⟨rfl, rfl⟩
  cases c2 : Fl.eqB f 4890909195324358656
  case true =>
    rw [cmpI_lt (above63 n f h1 h2 hn (.inr c2))]
    go_enter Try.func58, Try.ntmps58
    go_wp2_with fail
    go_ret
    exact ⟨rfl, rfl⟩
  cases c3 : Fl.ltB f 14114281232179134464
  case true =>
    rw [cmpI_gt (belowM63 n f h1 h2 hn c3)]
    go_enter Try.func58, Try.ntmps58
    go_wp2_with fail
    go_ret
    exact ⟨rfl, rfl⟩
  obtain ⟨hI, hq, b1, b2⟩ := Fl.part_small f hn c3 c1 c2
  obtain ⟨t1, t2, t3, t4, t5, t6, t7⟩ := Fl.trunc_facts f hq
  have hp := Fl.part_facts n f
  have hv := Fl.int_of (Fl.truncB f) (Fl.part f) t7 t6 (by rw [t1]; exact b1) (by rw [t1]; exact b2)
  rw [t1] at hv
  have hconv := fun w => run_convert_float_int (P := Try.prog) w 40 3 .f64 .i64 (Fl.truncB f) _ (by kernel_rfl) (by kernel_rfl) hv
  have TC := Lib.hid (fun w => trunc_calls f hI hq w)
  have FC := Lib.hid (fun w => fcmp_calls (Fl.truncB f) f t4 hn w)
  have hcf := cmpF_eq (Fl.truncB f) f t4 hn
  rw [t5] at hcf
  rw [hcf] at FC
  generalize Fl.truncB f = t at *
  generalize Fl.sgn (Fl.neg f) (Fl.part f) = v at *
  have IC := Lib.hid (fun w => icmp_calls n v w)
  clear hv t1 t2 t3 t4 t5 t6 t7 hI hq hcf
  rcases cmp_cases n v with ⟨hc, e⟩ | ⟨hc, e⟩ | ⟨hc, e⟩
  · rw [e] at IC
    rw [cmpI_lt (hp.1 hc)]
    clear hp hc e
    go_enter Try.func58, Try.ntmps58
    go_wp2_with fail
    refine (TC.out _).mono ?_
    rintro e w1 ⟨rfl, rfl⟩
    go_wp2_with fail
    refine (IC.out _).mono ?_
    rintro e w1 ⟨rfl, rfl⟩
    go_wp2_with fail
    refine (stands_calls (-1) (by decide) (by decide) _).mono ?_
    rintro e w1 ⟨rfl, rfl⟩
    go_wp2_with fail
    go_ret
    exact ⟨rfl, rfl⟩
  · have h3 := hp.2.2 hc
    rw [e] at IC
    rw [← h3] at FC
    have hb := cmpI_bd (Fl.NV n) (Fl.SV f)
    generalize cmpI (Fl.NV n) (Fl.SV f) = r at *
    clear hp hc e h3
    go_enter Try.func58, Try.ntmps58
    go_wp2_with fail
    refine (TC.out _).mono ?_
    rintro e w1 ⟨rfl, rfl⟩
    go_wp2_with fail
    refine (IC.out _).mono ?_
    rintro e w1 ⟨rfl, rfl⟩
    go_wp2_with fail
    refine (FC.out _).mono ?_
    rintro e w1 ⟨rfl, rfl⟩
    go_wp2_with fail
    refine (stands_calls r hb.1 hb.2 _).mono ?_
    rintro e w1 ⟨rfl, rfl⟩
    go_wp2_with fail
    go_ret
    exact ⟨rfl, rfl⟩
  · rw [e] at IC
    rw [cmpI_gt (hp.2.1 hc)]
    clear hp hc e
    go_enter Try.func58, Try.ntmps58
    go_wp2_with fail
    refine (TC.out _).mono ?_
    rintro e w1 ⟨rfl, rfl⟩
    go_wp2_with fail
    refine (IC.out _).mono ?_
    rintro e w1 ⟨rfl, rfl⟩
    go_wp2_with fail
    refine (stands_calls 1 (by decide) (by decide) _).mono ?_
    rintro e w1 ⟨rfl, rfl⟩
    go_wp2_with fail
    go_ret
    exact ⟨rfl, rfl⟩

/-- The reference's 'less' and 'more'. -/
theorem refless_calls (n : Int) (f : Nat) (h1 : -9223372036854775808 ≤ n) (h2 : n ≤ 9223372036854775807) (hf : f < 18446744073709551616) (hn : Fl.nanB f = false) (w : World) : Calls Try.prog 62 #[.int .i64 n, .float .f64 f] w fun e w' => e = .returned (.bool (decide (Fl.NV n < Fl.SV f))) ∧ w = w' := by
  have hw := (Fl.rung_whole n h1 h2).2.2
  have hwn := Fl.whole_notNan n h1 h2
  obtain ⟨f1, f2, f3⟩ := Fl.near_facts n f h1 h2
  have f4 := Fl.inexact_facts n f h1 h2
  have WC := Lib.hid (fun w => refwhole_calls n h1 h2 w)
  have BC := Lib.hid (fun w => below_calls (Fl.wholeBits n) f hw hf w)
  have DC := Lib.hid (fun w => below_calls f (Fl.wholeBits n) hf hw w)
  unfold Fl.belowB at BC DC
  have h63 : (Fl.ltB 4890909195324358656 f || Fl.eqB f 4890909195324358656) = decide (Fl.key Fl.C63 ≤ Fl.key f) := by
    rw [← C63_eq]
    unfold Fl.ltB Fl.eqB
    rw [hn, show Fl.nanB Fl.C63 = false by decide, Bool.eq_iff_iff]
    simp only [Bool.not_false, Bool.true_and, Bool.or_eq_true, decide_eq_true_iff]
    omega
  generalize Fl.wholeBits n = g at *
  generalize Fl.exactB n.natAbs = x at *
  clear hw hwn
  rcases Int.lt_trichotomy (Fl.key g) (Fl.key f) with hk | hk | hk
  · rw [decide_eq_true (f1 hk)]
    have d1 : decide (Fl.key g < Fl.key f) = true := decide_eq_true hk
    rw [d1] at BC
    clear f1 f2 f3 f4 hk d1 h63
    go_enter Try.func62, Try.ntmps62
    go_wp2_with fail
    refine (WC.out _).mono ?_
    rintro e w1 ⟨rfl, rfl⟩
    go_wp2_with fail
    refine (BC.out _).mono ?_
    rintro e w1 ⟨rfl, rfl⟩
    go_wp2_with fail
    go_ret
    exact ⟨rfl, rfl⟩
  · have d1 : decide (Fl.key g < Fl.key f) = false := decide_eq_false (by omega)
    have d2 : decide (Fl.key f < Fl.key g) = false := decide_eq_false (by omega)
    rw [d1] at BC
    rw [d2] at DC
    cases x
    · obtain ⟨f5, f6⟩ := f4 rfl hk.symm
      cases c1 : decide (Fl.key Fl.C63 ≤ Fl.key f)
      · rw [c1, Bool.or_eq_false_iff] at h63
        obtain ⟨c2, c3⟩ := h63
        obtain ⟨v, hv, g1, g2⟩ := f6 (by have := of_decide_eq_false c1; omega)
        have hconv := fun w => run_convert_float_int (P := Try.prog) w 40 3 .f64 .i64 f v (by kernel_rfl) (by kernel_rfl) hv
        have hr : decide (Fl.NV n < Fl.SV f) = decide (n < v) := by rw [decide_eq_decide]; exact g1.symm
        rw [hr]
        clear f1 f2 f3 f4 f5 f6 hk d1 d2 c1 hv g1 g2 hr
        go_enter Try.func62, Try.ntmps62
        go_wp2_with fail
        refine (WC.out _).mono ?_
        rintro e w1 ⟨rfl, rfl⟩
        go_wp2_with fail
        refine (BC.out _).mono ?_
        rintro e w1 ⟨rfl, rfl⟩
        go_wp2_with fail
        refine (DC.out _).mono ?_
        rintro e w1 ⟨rfl, rfl⟩
        go_wp2_with fail
        go_ret
        exact ⟨rfl, rfl⟩
      · rw [c1] at h63
        rw [decide_eq_true (f5 (of_decide_eq_true c1))]
        clear f1 f2 f3 f4 f5 f6 hk d1 d2 c1
        rw [Bool.or_eq_true] at h63
        rcases h63 with c2 | c2
        all_goals
          skip
          go_enter Try.func62, Try.ntmps62
          go_wp2_with fail
          refine (WC.out _).mono ?_
          rintro e w1 ⟨rfl, rfl⟩
          go_wp2_with fail
          refine (BC.out _).mono ?_
          rintro e w1 ⟨rfl, rfl⟩
          go_wp2_with fail
          refine (DC.out _).mono ?_
          rintro e w1 ⟨rfl, rfl⟩
          go_wp2_with fail
          all_goals
            go_ret
            exact ⟨rfl, rfl⟩
    · have hr : decide (Fl.NV n < Fl.SV f) = false := decide_eq_false (by rw [f3 rfl hk.symm]; omega)
      rw [hr]
      clear f1 f2 f3 f4 hk d1 d2 hr h63
      go_enter Try.func62, Try.ntmps62
      go_wp2_with fail
      refine (WC.out _).mono ?_
      rintro e w1 ⟨rfl, rfl⟩
      go_wp2_with fail
      refine (BC.out _).mono ?_
      rintro e w1 ⟨rfl, rfl⟩
      go_wp2_with fail
      go_ret
      exact ⟨rfl, rfl⟩
  · have hr : decide (Fl.NV n < Fl.SV f) = false := decide_eq_false (by have := f2 hk; omega)
    rw [hr]
    have d1 : decide (Fl.key g < Fl.key f) = false := decide_eq_false (by omega)
    have d2 : decide (Fl.key f < Fl.key g) = true := decide_eq_true hk
    rw [d1] at BC
    rw [d2] at DC
    clear f1 f2 f3 f4 hk d1 d2 hr h63
    cases x
    · go_enter Try.func62, Try.ntmps62
      go_wp2_with fail
      refine (WC.out _).mono ?_
      rintro e w1 ⟨rfl, rfl⟩
      go_wp2_with fail
      refine (BC.out _).mono ?_
      rintro e w1 ⟨rfl, rfl⟩
      go_wp2_with fail
      refine (DC.out _).mono ?_
      rintro e w1 ⟨rfl, rfl⟩
      go_wp2_with fail
      go_ret
      exact ⟨rfl, rfl⟩
    · go_enter Try.func62, Try.ntmps62
      go_wp2_with fail
      refine (WC.out _).mono ?_
      rintro e w1 ⟨rfl, rfl⟩
      go_wp2_with fail
      refine (BC.out _).mono ?_
      rintro e w1 ⟨rfl, rfl⟩
      go_wp2_with fail
      go_ret
      exact ⟨rfl, rfl⟩

theorem refmore_calls (n : Int) (f : Nat) (h1 : -9223372036854775808 ≤ n) (h2 : n ≤ 9223372036854775807) (hf : f < 18446744073709551616) (hn : Fl.nanB f = false) (w : World) : Calls Try.prog 63 #[.int .i64 n, .float .f64 f] w fun e w' => e = .returned (.bool (decide (Fl.SV f < Fl.NV n))) ∧ w = w' := by
  have hw := (Fl.rung_whole n h1 h2).2.2
  obtain ⟨f1, f2, f3⟩ := Fl.near_facts n f h1 h2
  have f4 := Fl.inexact_facts n f h1 h2
  have WC := Lib.hid (fun w => refwhole_calls n h1 h2 w)
  have BC := Lib.hid (fun w => below_calls f (Fl.wholeBits n) hf hw w)
  have DC := Lib.hid (fun w => below_calls (Fl.wholeBits n) f hw hf w)
  unfold Fl.belowB at BC DC
  have h63 : (Fl.ltB 4890909195324358656 f || Fl.eqB f 4890909195324358656) = decide (Fl.key Fl.C63 ≤ Fl.key f) := by
    rw [← C63_eq]
    unfold Fl.ltB Fl.eqB
    rw [hn, show Fl.nanB Fl.C63 = false by decide, Bool.eq_iff_iff]
    simp only [Bool.not_false, Bool.true_and, Bool.or_eq_true, decide_eq_true_iff]
    omega
  generalize Fl.wholeBits n = g at *
  generalize Fl.exactB n.natAbs = x at *
  clear hw
  rcases Int.lt_trichotomy (Fl.key f) (Fl.key g) with hk | hk | hk
  · rw [decide_eq_true (f2 hk)]
    have d1 : decide (Fl.key f < Fl.key g) = true := decide_eq_true hk
    rw [d1] at BC
    clear f1 f2 f3 f4 hk d1 h63
    go_enter Try.func63, Try.ntmps63
    go_wp2_with fail
    refine (WC.out _).mono ?_
    rintro e w1 ⟨rfl, rfl⟩
    go_wp2_with fail
    refine (BC.out _).mono ?_
    rintro e w1 ⟨rfl, rfl⟩
    go_wp2_with fail
    go_ret
    exact ⟨rfl, rfl⟩
  · have d1 : decide (Fl.key f < Fl.key g) = false := decide_eq_false (by omega)
    have d2 : decide (Fl.key g < Fl.key f) = false := decide_eq_false (by omega)
    rw [d1] at BC
    rw [d2] at DC
    cases x
    · obtain ⟨f5, f6⟩ := f4 rfl hk
      cases c1 : decide (Fl.key Fl.C63 ≤ Fl.key f)
      · rw [c1, Bool.or_eq_false_iff] at h63
        obtain ⟨c2, c3⟩ := h63
        obtain ⟨v, hv, g1, g2⟩ := f6 (by have := of_decide_eq_false c1; omega)
        have hconv := fun w => run_convert_float_int (P := Try.prog) w 40 3 .f64 .i64 f v (by kernel_rfl) (by kernel_rfl) hv
        have hr : decide (Fl.SV f < Fl.NV n) = decide (v < n) := by rw [decide_eq_decide]; exact g2.symm
        rw [hr]
        clear f1 f2 f3 f4 f5 f6 hk d1 d2 c1 hv g1 g2 hr
        go_enter Try.func63, Try.ntmps63
        go_wp2_with fail
        refine (WC.out _).mono ?_
        rintro e w1 ⟨rfl, rfl⟩
        go_wp2_with fail
        refine (BC.out _).mono ?_
        rintro e w1 ⟨rfl, rfl⟩
        go_wp2_with fail
        refine (DC.out _).mono ?_
        rintro e w1 ⟨rfl, rfl⟩
        go_wp2_with fail
        go_ret
        exact ⟨rfl, rfl⟩
      · rw [c1] at h63
        have := f5 (of_decide_eq_true c1)
        rw [decide_eq_false (by omega)]
        clear f1 f2 f3 f4 f5 f6 hk d1 d2 c1 this
        rw [Bool.or_eq_true] at h63
        rcases h63 with c2 | c2
        all_goals
          skip
          go_enter Try.func63, Try.ntmps63
          go_wp2_with fail
          refine (WC.out _).mono ?_
          rintro e w1 ⟨rfl, rfl⟩
          go_wp2_with fail
          refine (BC.out _).mono ?_
          rintro e w1 ⟨rfl, rfl⟩
          go_wp2_with fail
          refine (DC.out _).mono ?_
          rintro e w1 ⟨rfl, rfl⟩
          go_wp2_with fail
          all_goals
            go_ret
            exact ⟨rfl, rfl⟩
    · have hr : decide (Fl.SV f < Fl.NV n) = false := decide_eq_false (by rw [f3 rfl hk]; omega)
      rw [hr]
      clear f1 f2 f3 f4 hk d1 d2 hr h63
      go_enter Try.func63, Try.ntmps63
      go_wp2_with fail
      refine (WC.out _).mono ?_
      rintro e w1 ⟨rfl, rfl⟩
      go_wp2_with fail
      refine (BC.out _).mono ?_
      rintro e w1 ⟨rfl, rfl⟩
      go_wp2_with fail
      go_ret
      exact ⟨rfl, rfl⟩
  · have hr : decide (Fl.SV f < Fl.NV n) = false := decide_eq_false (by have := f1 hk; omega)
    rw [hr]
    have d1 : decide (Fl.key f < Fl.key g) = false := decide_eq_false (by omega)
    have d2 : decide (Fl.key g < Fl.key f) = true := decide_eq_true hk
    rw [d1] at BC
    rw [d2] at DC
    clear f1 f2 f3 f4 hk d1 d2 hr h63
    cases x
    · go_enter Try.func63, Try.ntmps63
      go_wp2_with fail
      refine (WC.out _).mono ?_
      rintro e w1 ⟨rfl, rfl⟩
      go_wp2_with fail
      refine (BC.out _).mono ?_
      rintro e w1 ⟨rfl, rfl⟩
      go_wp2_with fail
      refine (DC.out _).mono ?_
      rintro e w1 ⟨rfl, rfl⟩
      go_wp2_with fail
      go_ret
      exact ⟨rfl, rfl⟩
    · go_enter Try.func63, Try.ntmps63
      go_wp2_with fail
      refine (WC.out _).mono ?_
      rintro e w1 ⟨rfl, rfl⟩
      go_wp2_with fail
      refine (BC.out _).mono ?_
      rintro e w1 ⟨rfl, rfl⟩
      go_wp2_with fail
      go_ret
      exact ⟨rfl, rfl⟩
end Go.Proofs.Ytdmipmkgoefidaa.EvH
