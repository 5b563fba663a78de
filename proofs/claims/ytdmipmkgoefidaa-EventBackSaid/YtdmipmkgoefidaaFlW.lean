/- What a whole number is as a float64 word, and the quotient of two: plain arithmetic. -/
import Derived.Test.YtdmipmkgoefidaaFlR
import Derived.Laws.FloatArith
namespace Go.Proofs.Ytdmipmkgoefidaa.Fl
open Ieee
set_option linter.unusedSimpArgs false
set_option linter.unusedVariables false

def E1074 : Nat := 1074
def P1074 : Nat := 2 ^ E1074
theorem P1074_pos : 0 < P1074 := Nat.two_pow_pos _
theorem E1074_eq : E1074 = 1074 := rfl

/-- The whole number that the word of n stands for. -/
def near (n : Nat) : Nat := if len n ≤ 53 then n else (n / 2 ^ (len n - 53) + (up (n / 2 ^ (len n - 53)) (n % 2 ^ (len n - 53)) (2 ^ (len n - 53 - 1)) false).toNat) * 2 ^ (len n - 53)
def rungOf (n : Nat) : Nat := if n = 0 then 0 else rnd n (1022 + len n) false
def exactB (n : Nat) : Bool := decide (len n ≤ 53) || decide (n % 2 ^ (len n - 53) = 0)

theorem near_exact (n : Nat) : near n = n ↔ exactB n = true := by
  unfold near exactB
  by_cases h : len n ≤ 53
  · simp [h]
  · rw [if_neg h]
    simp only [h, decide_false, Bool.false_or, decide_eq_true_iff]
    have hd := Nat.div_add_mod n (2 ^ (len n - 53))
    have hm := Nat.mod_lt n (Nat.two_pow_pos (len n - 53))
    obtain ⟨d, hdd⟩ : ∃ d, len n - 53 = d + 1 := ⟨len n - 54, by omega⟩
    rw [hdd] at hd hm ⊢
    simp only [Nat.add_sub_cancel]
    have hp := Nat.two_pow_pos d
    rw [Nat.pow_succ] at hd hm ⊢
    generalize 2 ^ d = g at *
    generalize hl : n / (g * 2) = low at *
    generalize hrr : n % (g * 2) = rest at *
    constructor
    · intro e
      cases hu : up low rest g false
      · rw [hu] at e
        simp only [Bool.toNat_false, Nat.add_zero] at e
        rw [Nat.mul_comm] at e
        omega
      · rw [hu] at e
        simp only [Bool.toNat_true, Nat.add_mul, Nat.one_mul] at e
        rw [Nat.mul_comm] at e
        omega
    · intro e
      subst e
      have hu : up low 0 g false = false := by
        unfold up; simp; omega
      rw [hu]
      simp only [Bool.toNat_false, Nat.add_zero]
      rw [Nat.mul_comm]; omega

theorem V_rung (n : Nat) (hn : n < 18446744073709551616) : V (rungOf n) = near n * P1074 := by
  by_cases h0 : n = 0
  · subst h0; unfold rungOf near; simp [len, V_zero]
  have hp : 0 < n := by omega
  unfold rungOf near P1074
  rw [if_neg h0]
  have hB : B = 4503599627370496 := rfl
  have hl0 : 1 ≤ len n := by rw [len_pos hp]; omega
  by_cases h : len n ≤ 53
  · rw [rnd_small _ _ h, if_pos h]
    have hs := shifted_bd hp h
    unfold V
    rw [hB]
    have e1 : (1022 + len n) * 4503599627370496 + n * 2 ^ (53 - len n) % 4503599627370496 ≥ 4503599627370496 := by omega
    rw [if_neg (by omega)]
    have e2 : ((1022 + len n) * 4503599627370496 + n * 2 ^ (53 - len n) % 4503599627370496) % 4503599627370496 = n * 2 ^ (53 - len n) - 4503599627370496 := by omega
    have e3 : ((1022 + len n) * 4503599627370496 + n * 2 ^ (53 - len n) % 4503599627370496) / 4503599627370496 = 1022 + len n := by omega
    rw [e2, e3]
    have e4 : 4503599627370496 + (n * 2 ^ (53 - len n) - 4503599627370496) = n * 2 ^ (53 - len n) := by omega
    rw [e4, Nat.mul_assoc, ← Nat.pow_add, show 53 - len n + (1022 + len n - 1) = E1074 by rw [E1074_eq]; omega]
  · rw [if_neg h]
    have hl := low_bd (n := n) (by omega)
    have key : ∀ L, 4503599627370496 ≤ L → L ≤ 9007199254740992 → V ((1022 + len n) * 4503599627370496 + L - 4503599627370496) = L * 2 ^ (len n - 53) * 2 ^ E1074 := by
      intro L a b
      unfold V
      rw [hB, if_neg (by omega)]
      by_cases c : L = 9007199254740992
      · subst c
        have e2 : ((1022 + len n) * 4503599627370496 + 9007199254740992 - 4503599627370496) % 4503599627370496 = 0 := by omega
        have e3 : ((1022 + len n) * 4503599627370496 + 9007199254740992 - 4503599627370496) / 4503599627370496 = 1023 + len n := by omega
        rw [e2, e3, Nat.mul_assoc, ← Nat.pow_add]
        rw [show 1023 + len n - 1 = (len n - 53 + E1074) + 1 by rw [E1074_eq]; omega, Nat.pow_succ]
        generalize 2 ^ (len n - 53 + E1074) = P
        omega
      · have e2 : ((1022 + len n) * 4503599627370496 + L - 4503599627370496) % 4503599627370496 = L - 4503599627370496 := by omega
        have e3 : ((1022 + len n) * 4503599627370496 + L - 4503599627370496) / 4503599627370496 = 1022 + len n := by omega
        rw [e2, e3, Nat.mul_assoc, ← Nat.pow_add]
        rw [show 4503599627370496 + (L - 4503599627370496) = L by omega, show 1022 + len n - 1 = len n - 53 + E1074 by rw [E1074_eq]; omega]
    cases hu : up (n / 2 ^ (len n - 53)) (n % 2 ^ (len n - 53)) (2 ^ (len n - 53 - 1)) false
    · rw [rnd_down _ _ h hu]
      simp only [Bool.toNat_false, Nat.add_zero]
      exact key (n / 2 ^ (len n - 53)) (by omega) (by omega)
    · rw [rnd_up _ _ h hu]
      simp only [Bool.toNat_true]
      exact key (n / 2 ^ (len n - 53) + 1) (by omega) (by omega)

theorem rungOf_bd (n : Nat) (h0 : 0 < n) (hn : n ≤ 9223372036854775808) : 1023 * B ≤ rungOf n ∧ rungOf n ≤ 1087 * B := by
  unfold rungOf
  rw [if_neg (by omega)]
  have h := rnd_bd n (1022 + len n) false (by omega) h0
  have hl : len n ≤ 64 := len_le (j := 64) (by omega)
  have hl0 : 1 ≤ len n := by rw [len_pos h0]; omega
  exact ⟨Nat.le_trans (Nat.mul_le_mul_right _ (by omega)) h.1, Nat.le_trans h.2 (Nat.mul_le_mul_right _ (by omega))⟩

def wholeBits (n : Int) : Nat := if n < 0 then H + rungOf n.natAbs else rungOf n.natAbs

theorem rung_whole (n : Int) (h1 : -9223372036854775808 ≤ n) (h2 : n ≤ 9223372036854775807) : rung (wholeBits n) = rungOf n.natAbs ∧ neg (wholeBits n) = decide (n < 0) ∧ wholeBits n < 18446744073709551616 := by
  have hb : rungOf n.natAbs ≤ 1087 * B := by
    by_cases h : n.natAbs = 0
    · rw [h]; exact Nat.zero_le _
    · exact (rungOf_bd n.natAbs (by omega) (by omega)).2
  have hB : B = 4503599627370496 := rfl
  have hH : H = 9223372036854775808 := rfl
  unfold wholeBits rung neg
  rw [hB] at hb
  rw [hH]
  by_cases h : n < 0
  · rw [if_pos h]
    refine ⟨by omega, ?_, by omega⟩
    rw [Bool.eq_iff_iff]; simp; omega
  · rw [if_neg h]
    refine ⟨by omega, ?_, by omega⟩
    rw [Bool.eq_iff_iff]; simp; omega

theorem whole_nearest (n : Int) (h1 : -9223372036854775808 ≤ n) (h2 : n ≤ 9223372036854775807) : floatOfInt .f64 n = wholeBits n := by
  show double.nearest (n < 0) n.natAbs 0 = _
  have hsw : double.signWeight = H := signWeight_eq
  by_cases h : n.natAbs = 0
  · obtain rfl : n = 0 := by omega
    decide +kernel
  · have hp : 0 < n.natAbs := by omega
    have hl : len n.natAbs ≤ 64 := len_le (j := 64) (by omega)
    have hl0 : 1 ≤ len n.natAbs := by rw [len_pos hp]; omega
    rw [nearest_eq _ n.natAbs (1022 + len n.natAbs) 0 hp (by omega) (by omega) (by omega)]
    unfold wholeBits rungOf Format.word
    rw [if_neg h, hsw]
    by_cases hn : n < 0 <;> simp [hn]

theorem whole_notNan (n : Int) (h1 : -9223372036854775808 ≤ n) (h2 : n ≤ 9223372036854775807) : nanB (wholeBits n) = false := by
  unfold nanB
  rw [(rung_whole n h1 h2).1]
  have hb : rungOf n.natAbs ≤ 1087 * B := by
    by_cases h : n.natAbs = 0
    · rw [h]; exact Nat.zero_le _
    · exact (rungOf_bd n.natAbs (by omega) (by omega)).2
  have : 1087 * B < I := by decide
  rw [decide_eq_false_iff_not]; omega

def C63 : Nat := 4890909195324358656
theorem V_mul (q : Nat) : V ((q + 1) * B) = B * 2 ^ q := by
  unfold V
  have hB := B_pos
  rw [Nat.mul_mod_left, Nat.mul_div_cancel _ hB, if_neg, Nat.add_zero, Nat.add_sub_cancel]
  rw [Nat.succ_mul]; omega
theorem V_C63 : V (rung C63) = 9223372036854775808 * P1074 := by
  obtain ⟨K, hK⟩ : ∃ K, K = 1085 := ⟨_, rfl⟩
  have e : rung C63 = (K + 1) * B := by rw [hK]; decide
  rw [e, V_mul]
  unfold P1074
  rw [show (9223372036854775808 : Nat) = 2 ^ 63 from rfl, show B = 2 ^ 52 from rfl, ← Nat.pow_add, ← Nat.pow_add]
  congr 1
  rw [E1074_eq]; omega

theorem lt63 (n : Int) (h1 : -9223372036854775808 ≤ n) (h2 : n ≤ 9223372036854775807) : ltB (wholeBits n) C63 = (decide (n < 0) || decide (near n.natAbs < 9223372036854775808)) := by
  obtain ⟨hr, hn, _⟩ := rung_whole n h1 h2
  unfold ltB
  rw [whole_notNan n h1 h2, show nanB C63 = false by decide]
  simp only [Bool.not_false, Bool.true_and]
  unfold key
  rw [hn, hr, show neg C63 = false by decide]
  by_cases h : n < 0
  · simp only [h, decide_true, Bool.true_or, sgn, if_true, Bool.false_eq_true, if_false]
    have : 0 < rung C63 := by decide
    rw [decide_eq_true_iff]; omega
  · simp only [h, decide_false, Bool.false_or, sgn, Bool.false_eq_true, if_false]
    have e := V_lt_iff (rungOf n.natAbs) (rung C63)
    rw [V_rung _ (by omega), V_C63, Nat.mul_lt_mul_right P1074_pos] at e
    rw [decide_eq_decide, Int.ofNat_lt]; exact e.symm

theorem toInt_V (a v : Nat) (h : rung a < I) (hv : V (rung a) = v * P1074) : (FloatKind.f64.decode a).toInt .zero = some (sgn (neg a) v) := by
  show (double.read a).toInt .zero = _
  obtain ⟨m, i, e, hm⟩ := read_num a h
  rw [e]
  rw [hv] at hm
  unfold P1074 at hm
  have hE := E1074_eq
  generalize E1074 = E at *
  have hlp : double.leastPlace = -1074 := by decide
  rw [hlp]
  unfold Datum.toInt Datum.integral
  simp only [signed_eq, Nat.pow_zero, Nat.mul_one]
  congr 2
  unfold Toward.cut
  simp only [Bool.toNat_false, Nat.add_zero]
  by_cases hi : 1074 ≤ i
  · have e1 : (-1074 + (i : Int)).toNat = i - 1074 := by omega
    have e2 : (-(-1074 + (i : Int))).toNat = 0 := by omega
    rw [e1, e2, Nat.zero_min, Nat.shiftLeft_zero, Nat.div_one, Nat.shiftLeft_eq]
    rw [show i = (i - 1074) + E by omega, Nat.pow_add, ← Nat.mul_assoc] at hm
    exact Nat.eq_of_mul_eq_mul_right (Nat.two_pow_pos E) hm
  · have e1 : (-1074 + (i : Int)).toNat = 0 := by omega
    have e2 : (-(-1074 + (i : Int))).toNat = 1074 - i := by omega
    rw [e1, e2, Nat.shiftLeft_zero, Nat.shiftLeft_eq, Nat.one_mul]
    have hm' : m = v * 2 ^ (1074 - i) := by
      have e3 : (2 : Nat) ^ E = 2 ^ (1074 - i) * 2 ^ i := by rw [← Nat.pow_add]; congr 1; omega
      rw [e3, ← Nat.mul_assoc] at hm
      exact Nat.eq_of_mul_eq_mul_right (Nat.two_pow_pos i) hm
    by_cases hv0 : v = 0
    · subst hv0; rw [hm']; simp
    · have hlog : 1074 - i ≤ m.log2 := by
        have hm0 : m ≠ 0 := by rw [hm']; exact Nat.mul_ne_zero hv0 (Nat.ne_of_gt (Nat.two_pow_pos _))
        rw [Nat.le_log2 hm0, hm']
        exact Nat.le_mul_of_pos_left _ (by omega)
      rw [Nat.min_eq_left (by omega), hm', Nat.mul_div_cancel _ (Nat.two_pow_pos _)]

theorem int_val (n : Int) (h1 : -9223372036854775808 ≤ n) (h2 : n ≤ 9223372036854775807) (hlt : near n.natAbs < 9223372036854775808 ∨ n < 0 ∧ near n.natAbs ≤ 9223372036854775808) :
    floatToIntVal .f64 (wholeBits n) .i64 = some (sgn (decide (n < 0)) (near n.natAbs)) := by
  obtain ⟨hr, hn, _⟩ := rung_whole n h1 h2
  have hb : rungOf n.natAbs ≤ 1087 * B := by
    by_cases h : n.natAbs = 0
    · rw [h]; exact Nat.zero_le _
    · exact (rungOf_bd n.natAbs (by omega) (by omega)).2
  have hI : 1087 * B < I := by decide
  have e := toInt_V (wholeBits n) (near n.natAbs) (by rw [hr]; omega) (by rw [hr]; exact V_rung _ (by omega))
  unfold floatToIntVal
  rw [e, hn]
  simp only []
  rw [if_pos]
  have hmin : IntKind.i64.min = -9223372036854775808 := by decide
  have hmax : IntKind.i64.max = 9223372036854775807 := by decide
  rw [hmin, hmax]
  by_cases h : n < 0
  · simp only [h, decide_true, sgn, if_true]; omega
  · simp only [h, decide_false, sgn, Bool.false_eq_true, if_false]; omega

theorem near_le (n : Nat) (hn : n ≤ 9223372036854775808) : near n ≤ 9223372036854775808 := by
  by_cases h : n < 9223372036854775808
  · have hl : len n ≤ 63 := len_le (j := 63) h
    unfold near
    by_cases hk : len n ≤ 53
    · rw [if_pos hk]; exact hn
    · rw [if_neg hk]
      have hb := low_bd (n := n) (by omega)
      have hu : (up (n / 2 ^ (len n - 53)) (n % 2 ^ (len n - 53)) (2 ^ (len n - 53 - 1)) false).toNat ≤ 1 := Bool.toNat_le _
      calc _ ≤ 9007199254740992 * 2 ^ (len n - 53) := Nat.mul_le_mul_right _ (by omega)
        _ ≤ 9007199254740992 * 2 ^ 10 := Nat.mul_le_mul_left _ (Nat.pow_le_pow_right (by decide) (by omega))
        _ ≤ _ := by decide
  · obtain rfl : n = 9223372036854775808 := by omega
    decide

/-- 'f < 1<<63 && int(f) == n' -/
theorem whole_exact (n : Int) (h1 : -9223372036854775808 ≤ n) (h2 : n ≤ 9223372036854775807) (h : ltB (wholeBits n) C63 = true) :
    ∃ v, floatToIntVal .f64 (wholeBits n) .i64 = some v ∧ (v == n) = exactB n.natAbs := by
  rw [lt63 n h1 h2] at h
  have hle := near_le n.natAbs (by omega)
  refine ⟨_, int_val n h1 h2 ?_, ?_⟩
  · simp at h; omega
  · have e := near_exact n.natAbs
    rw [Bool.eq_iff_iff, ← e, beq_iff_eq]
    by_cases hn : n < 0
    · simp only [hn, decide_true, sgn, if_true]; omega
    · simp only [hn, decide_false, sgn, Bool.false_eq_true, if_false]; omega
theorem whole_inexact (n : Int) (h1 : -9223372036854775808 ≤ n) (h2 : n ≤ 9223372036854775807) (h : ltB (wholeBits n) C63 = false) : exactB n.natAbs = false := by
  rw [lt63 n h1 h2] at h
  simp at h
  cases he : exactB n.natAbs
  · rfl
  · have := (near_exact n.natAbs).2 he
    omega
end Go.Proofs.Ytdmipmkgoefidaa.Fl
