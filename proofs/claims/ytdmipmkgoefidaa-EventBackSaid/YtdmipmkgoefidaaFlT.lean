/- The whole part of a float64 word, as a word: plain arithmetic. -/
import Derived.Test.YtdmipmkgoefidaaFlM
namespace Go.Proofs.Ytdmipmkgoefidaa.Fl
open Ieee
set_option linter.unusedSimpArgs false
set_option linter.unusedVariables false

theorem lp_eq : double.leastPlace = -1074 := by decide

theorem integral_eq (a : Nat) (h : rung a < I) : (double.read a).integral .zero = .number (neg a) (part a) 0 := by
  obtain ⟨m, i, e, hm⟩ := read_num a h
  rw [e]
  unfold Datum.integral part
  simp only []
  congr 1
  rw [← hm, lp_eq]
  unfold P1074
  have hE := E1074_eq
  generalize E1074 = E at *
  unfold Toward.cut
  simp only [Bool.toNat_false, Nat.add_zero]
  by_cases hi : 1074 ≤ i
  · have e1 : (-1074 + (i : Int)).toNat = i - 1074 := by omega
    have e2 : (-(-1074 + (i : Int))).toNat = 0 := by omega
    rw [e1, e2, Nat.zero_min, Nat.shiftLeft_zero, Nat.div_one, Nat.shiftLeft_eq]
    obtain ⟨j, rfl⟩ : ∃ j, i = j + E := ⟨i - E, by omega⟩
    rw [← hE, Nat.add_sub_cancel, Nat.pow_add, ← Nat.mul_assoc, Nat.mul_div_cancel _ (Nat.two_pow_pos _)]
  · have e1 : (-1074 + (i : Int)).toNat = 0 := by omega
    have e2 : (-(-1074 + (i : Int))).toNat = 1074 - i := by omega
    rw [e1, e2, Nat.shiftLeft_zero, Nat.shiftLeft_eq, Nat.one_mul]
    have hr : m * 2 ^ i / 2 ^ E = m / 2 ^ (1074 - i) := by
      have e3 : (2 : Nat) ^ E = 2 ^ (1074 - i) * 2 ^ i := by rw [← Nat.pow_add]; congr 1; omega
      rw [e3, Nat.mul_div_mul_right _ _ (Nat.two_pow_pos i)]
    rw [hr]
    by_cases hlog : 1074 - i ≤ m.log2 + 2
    · rw [Nat.min_eq_left hlog]
    · rw [Nat.min_eq_right (by omega)]
      have hml : m < 2 ^ (m.log2 + 1) := Nat.lt_log2_self
      have hp1 : (2 : Nat) ^ (m.log2 + 1) ≤ 2 ^ (m.log2 + 2) := Nat.pow_le_pow_right (by decide) (by omega)
      have hp2 : (2 : Nat) ^ (m.log2 + 1) ≤ 2 ^ (1074 - i) := Nat.pow_le_pow_right (by decide) (by omega)
      rw [Nat.div_eq_of_lt (Nat.lt_of_lt_of_le hml hp1), Nat.div_eq_of_lt (Nat.lt_of_lt_of_le hml hp2)]

theorem near_part (f : Nat) : near (part f) = part f := by
  by_cases h : len (part f) ≤ 53
  · unfold near; rw [if_pos h]
  · rw [near_exact]
    unfold exactB
    simp only [h, decide_false, Bool.false_or, decide_eq_true_iff]
    have hP := P1074_pos
    have hd := Nat.div_add_mod (V (rung f)) P1074
    have hm := Nat.mod_lt (V (rung f)) hP
    have hpd : part f = V (rung f) / P1074 := rfl
    rw [← hpd] at hd
    have hl := low_bd (n := part f) (by omega)
    have h0 := V_low (part f) (part f / 2 ^ (len (part f) - 53)) (by omega) hl.1 (by omega)
    have h1 := V_low (part f) (part f / 2 ^ (len (part f) - 53) + 1) (by omega) (by omega) (by omega)
    have hr0 : (1022 + len (part f)) * 4503599627370496 + (part f / 2 ^ (len (part f) - 53) + 1) - 4503599627370496 = ((1022 + len (part f)) * 4503599627370496 + part f / 2 ^ (len (part f) - 53) - 4503599627370496) + 1 := by omega
    rw [hr0] at h1
    obtain ⟨r0, e0⟩ : ∃ r0 : Nat, (1022 + len (part f)) * 4503599627370496 + part f / 2 ^ (len (part f) - 53) - 4503599627370496 = r0 := ⟨_, rfl⟩
    rw [e0] at h0 h1
    clear e0 hr0
    have hdg := Nat.div_add_mod (part f) (2 ^ (len (part f) - 53))
    have hmg := Nat.mod_lt (part f) (Nat.two_pow_pos (len (part f) - 53))
    generalize part f % 2 ^ (len (part f) - 53) = rest at *
    generalize part f / 2 ^ (len (part f) - 53) = L at *
    generalize 2 ^ (len (part f) - 53) = g at *
    generalize part f = q at *
    generalize hv : V (rung f) = v at *
    generalize v % P1074 = rr at *
    have hLg : L * g ≤ q := by rw [Nat.mul_comm]; omega
    have hLg1 : q + 1 ≤ (L + 1) * g := by rw [Nat.add_mul, Nat.one_mul, Nat.mul_comm]; omega
    have a0 : V r0 ≤ v := by
      rw [h0]
      refine Nat.le_trans (Nat.mul_le_mul_right _ hLg) ?_
      rw [Nat.mul_comm]; omega
    have a1 : v < V (r0 + 1) := by
      rw [h1]
      refine Nat.lt_of_lt_of_le ?_ (Nat.mul_le_mul_right _ hLg1)
      rw [Nat.add_mul, Nat.one_mul, Nat.mul_comm]; omega
    rw [← hv] at a0 a1
    have a2 : rung f < r0 + 1 := (V_lt_iff _ _).1 a1
    have a3 : r0 = rung f := by
      rcases Nat.lt_or_ge (rung f) r0 with e | e
      · have := V_lt e; omega
      · omega
    rw [a3, hv] at h0
    have h5 : L * g * P1074 ≤ q * P1074 := Nat.mul_le_mul_right _ hLg
    have h6 : q = L * g := by
      have : q * P1074 ≤ L * g * P1074 := by rw [← h0, Nat.mul_comm]; omega
      have := Nat.le_of_mul_le_mul_right this hP
      omega
    rw [Nat.mul_comm] at h6
    omega

/-- The word of the whole part. -/
def truncB (a : Nat) : Nat := if neg a then H + rungOf (part a) else rungOf (part a)

theorem rungOf_lt (n : Nat) (hn : n ≤ 9223372036854775808) : rungOf n ≤ 1087 * B := by
  by_cases h : n = 0
  · rw [h]; exact Nat.zero_le _
  · exact (rungOf_bd n (by omega) hn).2

theorem trunc_word (a : Nat) (h : rung a < I) (hq : part a ≤ 9223372036854775808) : double.write ((double.read a).integral .zero) = truncB a := by
  rw [integral_eq a h]
  show double.nearest (neg a) (part a) 0 = _
  have hsw : double.signWeight = H := signWeight_eq
  by_cases h0 : part a = 0
  · unfold truncB
    rw [h0]
    have : rungOf 0 = 0 := rfl
    rw [this]
    cases neg a <;> decide
  · have hl : len (part a) ≤ 64 := len_le (j := 64) (by omega)
    have hl0 : 1 ≤ len (part a) := by rw [len_pos (by omega)]; omega
    rw [nearest_eq _ (part a) (1022 + len (part a)) 0 (by omega) (by omega) (by omega) (by omega)]
    unfold truncB rungOf Format.word
    rw [if_neg h0, hsw]

theorem trunc_facts (a : Nat) (hq : part a ≤ 9223372036854775808) : neg (truncB a) = neg a ∧ rung (truncB a) = rungOf (part a) ∧ truncB a < 18446744073709551616 ∧ nanB (truncB a) = false ∧ SV (truncB a) = sgn (neg a) (part a * P1074) ∧ V (rung (truncB a)) = part a * P1074 ∧ rung (truncB a) < I := by
  have hb := rungOf_lt (part a) hq
  have hB : B = 4503599627370496 := rfl
  have hH : H = 9223372036854775808 := rfl
  have hI : 1087 * B < I := by decide
  have hV : V (rungOf (part a)) = part a * P1074 := by rw [V_rung _ (by omega), near_part]
  have h1 : rung (truncB a) = rungOf (part a) := by
    unfold truncB rung
    rw [hB] at hb
    rw [hH]
    cases neg a <;> simp only [if_true, Bool.false_eq_true, if_false] <;> omega
  have h2 : neg (truncB a) = neg a := by
    unfold truncB
    rw [hB] at hb
    generalize rungOf (part a) = r at *
    unfold neg at *
    rw [hH]
    cases hh : (a / 9223372036854775808 % 2 == 1) <;> simp only [if_true, Bool.false_eq_true, if_false]
    · rw [beq_eq_false_iff_ne]; omega
    · rw [beq_iff_eq]; omega
  refine ⟨h2, h1, ?_, ?_, ?_, ?_, ?_⟩
  · rw [hB] at hb
    unfold truncB; rw [hH]
    cases neg a <;> simp only [if_true, Bool.false_eq_true, if_false] <;> omega
  · unfold nanB; rw [h1, decide_eq_false_iff_not]; omega
  · unfold SV; rw [h1, h2, hV]
  · rw [h1, hV]
  · rw [h1]; omega

def CM63 : Nat := 14114281232179134464
theorem SV_CM63 : SV CM63 = NV (-9223372036854775808) := by
  have a : decide ((-9223372036854775808 : Int) < 0) = true := by decide
  have b : (-9223372036854775808 : Int).natAbs = 9223372036854775808 := rfl
  have c : rung CM63 = rung C63 := by decide
  unfold SV
  rw [c, V_C63, show neg CM63 = true by decide, NV_sgn, a, b]

/-- Between -2^63 and 2^63: the whole part fits. -/
theorem part_small (f : Nat) (hn : nanB f = false) (h1 : ltB f CM63 = false) (h2 : ltB C63 f = false) (h3 : eqB f C63 = false) :
    rung f < I ∧ part f ≤ 9223372036854775808 ∧ -9223372036854775808 ≤ sgn (neg f) (part f) ∧ sgn (neg f) (part f) ≤ 9223372036854775807 := by
  unfold ltB eqB at *
  rw [hn, show nanB C63 = false by decide] at *
  rw [show nanB CM63 = false by decide] at h1
  simp only [Bool.not_false, Bool.true_and, decide_eq_false_iff_not] at h1 h2 h3
  rw [SV_lt, SV_CM63] at h1
  rw [SV_lt, SV_C63] at h2
  rw [SV_eq, SV_C63] at h3
  have hlt : SV f < NV 9223372036854775808 := by omega
  have hge : NV (-9223372036854775808) ≤ SV f := by omega
  clear h1 h2 h3
  have hP := P1074_pos
  have e : NV (-9223372036854775808) = -(9223372036854775808 * (P1074 : Int)) := by unfold NV; rw [Int.neg_mul]
  have e' : NV 9223372036854775808 = 9223372036854775808 * (P1074 : Int) := rfl
  rw [e'] at hlt
  rw [e] at hge
  have hd := Nat.div_add_mod (V (rung f)) P1074
  have hm := Nat.mod_lt (V (rung f)) hP
  have hI : rung f < I := by
    rcases Nat.lt_or_ge (rung f) I with hh | hh
    · exact hh
    · exfalso
      have hi : V I ≤ V (rung f) := by
        rcases Nat.lt_or_ge I (rung f) with a | a
        · exact Nat.le_of_lt (V_lt a)
        · have : rung f = I := by omega
          rw [this]; exact Nat.le_refl _
      have hc : V (rung C63 + 1) ≤ V I := by
        have : rung C63 + 1 < I := by decide
        exact Nat.le_of_lt (V_lt this)
      have hc2 := V_step (rung C63)
      rw [V_C63] at hc2
      unfold SV at hlt hge
      cases neg f <;> simp only [sgn, if_true, Bool.false_eq_true, if_false] at hlt hge <;> omega
  refine ⟨hI, ?_⟩
  unfold SV at hlt hge
  unfold part
  generalize V (rung f) / P1074 = q at *
  generalize V (rung f) % P1074 = r at *
  generalize V (rung f) = v at *
  have hv : (v : Int) = (P1074 : Int) * (q : Int) + (r : Int) := by rw [← hd, Int.natCast_add, Int.natCast_mul]
  have hmono : ∀ k : Nat, k ≤ q → (k : Int) * (P1074 : Int) ≤ (P1074 : Int) * (q : Int) := fun k hk => by
    rw [Int.mul_comm]; exact Int.mul_le_mul_of_nonneg_left (by omega) (by omega)
  have hq : q ≤ 9223372036854775808 ∧ (neg f = false → q < 9223372036854775808) := by
    constructor
    · rcases Nat.lt_or_ge 9223372036854775808 q with hh | hh
      · exfalso
        have := hmono (9223372036854775809) (by omega)
        have e2 : ((9223372036854775809 : Nat) : Int) * (P1074 : Int) = 9223372036854775808 * (P1074 : Int) + (P1074 : Int) := by
          rw [show ((9223372036854775809 : Nat) : Int) = 9223372036854775808 + 1 from rfl, Int.add_mul, Int.one_mul]
        cases hn' : neg f <;> rw [hn'] at hlt hge <;> simp only [sgn, if_true, Bool.false_eq_true, if_false] at hlt hge <;> omega
      · exact hh
    · intro hn'
      rcases Nat.lt_or_ge q 9223372036854775808 with hh | hh
      · exact hh
      · exfalso
        have := hmono 9223372036854775808 hh
        rw [hn'] at hlt
        simp only [sgn, Bool.false_eq_true, if_false] at hlt
        rw [show ((9223372036854775808 : Nat) : Int) = 9223372036854775808 from rfl] at this
        omega
  refine ⟨hq.1, ?_⟩
  cases hn' : neg f
  · have := hq.2 hn'
    simp only [sgn, Bool.false_eq_true, if_false]; omega
  · have := hq.1
    simp only [sgn, if_true]; omega
end Go.Proofs.Ytdmipmkgoefidaa.Fl
