/- How whole numbers stand to float64 words: plain arithmetic. -/
import Derived.Test.YtdmipmkgoefidaaFlW
namespace Go.Proofs.Ytdmipmkgoefidaa.Fl
open Ieee
set_option linter.unusedSimpArgs false
set_option linter.unusedVariables false

/-- What a word stands for, times 2 ^ 1074. -/
def SV (a : Nat) : Int := sgn (neg a) (V (rung a))
theorem SV_lt (a b : Nat) : key a < key b ↔ SV a < SV b := (sgn_lt_congr V_lt_iff V_zero _ _ _ _).symm
theorem SV_eq (a b : Nat) : key a = key b ↔ SV a = SV b := (sgn_eq_congr V_lt_iff V_zero _ _ _ _).symm

theorem V_low (n L : Nat) (h : 53 < len n) (a : 4503599627370496 ≤ L) (b : L ≤ 9007199254740992) : V ((1022 + len n) * 4503599627370496 + L - 4503599627370496) = L * 2 ^ (len n - 53) * P1074 := by
  unfold P1074
  unfold V
  have hB : B = 4503599627370496 := rfl
  rw [hB, if_neg (by omega)]
  by_cases c : L = 9007199254740992
  · subst c
    have e2 : ((1022 + len n) * 4503599627370496 + 9007199254740992 - 4503599627370496) % 4503599627370496 = 0 := by omega
    have e3 : ((1022 + len n) * 4503599627370496 + 9007199254740992 - 4503599627370496) / 4503599627370496 = 1023 + len n := by omega
    rw [e2, e3, Nat.mul_assoc, ← Nat.pow_add]
    rw [show 1023 + len n - 1 = (len n - 53 + E1074) + 1 by rw [E1074_eq]; omega, Nat.pow_succ]
    generalize 2 ^ (len n - 53 + E1074) = P
    omega
  · have e2 : ((1022 + len n) * 4503599627370496 + L - 4503599627370496) % 4503599627370496 = L - 4503599627370496 := by omega
    have e3 : ((1022 + len n) * 4503599627370496 + L - 4503599627370496) / 4503599627370496 = 1022 + len n := by omega
    rw [e2, e3, Nat.mul_assoc, ← Nat.pow_add]
    rw [show 4503599627370496 + (L - 4503599627370496) = L by omega, show 1022 + len n - 1 = len n - 53 + E1074 by rw [E1074_eq]; omega]

/-- No word lies between a whole number and the one next to it. -/
theorem V_between (n r : Nat) : (V r ≤ n * P1074 → V r ≤ near n * P1074) ∧ (n * P1074 ≤ V r → near n * P1074 ≤ V r) := by
  by_cases h : len n ≤ 53
  · have : near n = n := by unfold near; rw [if_pos h]
    rw [this]; exact ⟨id, id⟩
  · have hl := low_bd (n := n) (by omega)
    have h0 := V_low n (n / 2 ^ (len n - 53)) (by omega) hl.1 (by omega)
    have h1 := V_low n (n / 2 ^ (len n - 53) + 1) (by omega) (by omega) (by omega)
    have hd := Nat.div_add_mod n (2 ^ (len n - 53))
    have hm := Nat.mod_lt n (Nat.two_pow_pos (len n - 53))
    have hP := P1074_pos
    have hN : near n = (n / 2 ^ (len n - 53) + (up (n / 2 ^ (len n - 53)) (n % 2 ^ (len n - 53)) (2 ^ (len n - 53 - 1)) false).toNat) * 2 ^ (len n - 53) := by unfold near; rw [if_neg h]
    rw [hN]
    clear hN
    have hup : n % 2 ^ (len n - 53) = 0 → up (n / 2 ^ (len n - 53)) (n % 2 ^ (len n - 53)) (2 ^ (len n - 53 - 1)) false = false := by
      intro e
      rw [e]
      have := Nat.two_pow_pos (len n - 53 - 1)
      unfold up; simp; omega
    generalize up (n / 2 ^ (len n - 53)) (n % 2 ^ (len n - 53)) (2 ^ (len n - 53 - 1)) false = u at *
    have hr0 : (1022 + len n) * 4503599627370496 + (n / 2 ^ (len n - 53) + 1) - 4503599627370496 = ((1022 + len n) * 4503599627370496 + n / 2 ^ (len n - 53) - 4503599627370496) + 1 := by omega
    rw [hr0] at h1
    obtain ⟨r0, e0⟩ : ∃ r0 : Nat, (1022 + len n) * 4503599627370496 + n / 2 ^ (len n - 53) - 4503599627370496 = r0 := ⟨_, rfl⟩
    rw [e0] at h0 h1
    clear e0 hr0
    generalize n % 2 ^ (len n - 53) = rest at *
    generalize n / 2 ^ (len n - 53) = L at *
    generalize 2 ^ (len n - 53) = g at *
    have hLg : L * g ≤ n := by rw [Nat.mul_comm]; omega
    have hLg1 : n < (L + 1) * g := by rw [Nat.add_mul, Nat.one_mul, Nat.mul_comm]; omega
    have a0 : V r0 ≤ n * P1074 := by rw [h0]; exact Nat.mul_le_mul_right _ hLg
    have a1 : n * P1074 < V (r0 + 1) := by rw [h1]; exact Nat.mul_lt_mul_of_pos_right hLg1 hP
    cases hu : u
    · simp only [Bool.toNat_false, Nat.add_zero]
      rw [← h0]
      refine ⟨fun hv => ?_, fun hv => Nat.le_trans a0 hv⟩
      have : r < r0 + 1 := (V_lt_iff _ _).1 (Nat.lt_of_le_of_lt hv a1)
      rcases (by omega : r < r0 ∨ r = r0) with e | rfl
      · exact Nat.le_of_lt (V_lt e)
      · exact Nat.le_refl _
    · simp only [Bool.toNat_true]
      rw [← h1]
      have hrest : rest ≠ 0 := fun e => by rw [hup e] at hu; cases hu
      have a2 : V r0 < n * P1074 := by
        rw [h0]; refine Nat.mul_lt_mul_of_pos_right ?_ hP
        rw [Nat.mul_comm]; omega
      refine ⟨fun hv => Nat.le_of_lt (Nat.lt_of_le_of_lt hv a1), fun hv => ?_⟩
      have : r0 < r := (V_lt_iff _ _).1 (Nat.lt_of_lt_of_le a2 hv)
      rcases (by omega : r0 + 1 < r ∨ r = r0 + 1) with e | rfl
      · exact Nat.le_of_lt (V_lt e)
      · exact Nat.le_refl _

/-- A whole number, times 2 ^ 1074. -/
def NV (n : Int) : Int := n * (P1074 : Int)
theorem NV_lt (n m : Int) : NV n < NV m ↔ n < m := by
  unfold NV
  have : (0 : Int) < (P1074 : Int) := by have := P1074_pos; omega
  exact Int.mul_lt_mul_right this
theorem NV_sgn (n : Int) : NV n = sgn (decide (n < 0)) (n.natAbs * P1074) := by
  unfold NV sgn
  by_cases h : n < 0
  · rw [if_pos (by simpa using h)]
    rw [show ((n.natAbs * P1074 : Nat) : Int) = (n.natAbs : Int) * (P1074 : Int) from Int.natCast_mul _ _, ← Int.neg_mul]
    congr 1; omega
  · rw [if_neg (by simpa using h)]
    rw [show ((n.natAbs * P1074 : Nat) : Int) = (n.natAbs : Int) * (P1074 : Int) from Int.natCast_mul _ _]
    congr 1; omega
theorem SV_whole (n : Int) (h1 : -9223372036854775808 ≤ n) (h2 : n ≤ 9223372036854775807) : SV (wholeBits n) = sgn (decide (n < 0)) (near n.natAbs * P1074) := by
  obtain ⟨hr, hn, _⟩ := rung_whole n h1 h2
  unfold SV
  rw [hr, hn, V_rung _ (by omega)]
theorem SV_C63 : SV C63 = NV 9223372036854775808 := by
  unfold SV
  have a : decide ((9223372036854775808 : Int) < 0) = false := by decide
  have b : (9223372036854775808 : Int).natAbs = 9223372036854775808 := rfl
  rw [V_C63, show neg C63 = false by decide, NV_sgn, a, b]

theorem near_zero : near 0 = 0 := by decide

/-- How n and f stand where the word next to n does, or does not. -/
theorem near_facts (n : Int) (f : Nat) (h1 : -9223372036854775808 ≤ n) (h2 : n ≤ 9223372036854775807) :
    (key (wholeBits n) < key f → NV n < SV f) ∧ (key f < key (wholeBits n) → SV f < NV n) ∧ (exactB n.natAbs = true → key f = key (wholeBits n) → SV f = NV n) := by
  rw [SV_lt, SV_lt, SV_eq, SV_whole n h1 h2, NV_sgn]
  have hb := V_between n.natAbs (rung f)
  have hex := near_exact n.natAbs
  have hz : n.natAbs = 0 → near n.natAbs = 0 := fun e => by rw [e]; exact near_zero
  have hP := P1074_pos
  unfold SV
  generalize hV : V (rung f) = v at *
  generalize near n.natAbs = N at *
  have hm0 : 0 < n.natAbs → 0 < n.natAbs * P1074 := fun h => Nat.mul_pos h hP
  have hn0 : N = 0 → N * P1074 = 0 := fun h => by rw [h, Nat.zero_mul]
  have hmn : N = n.natAbs → N * P1074 = n.natAbs * P1074 := fun h => by rw [h]
  generalize N * P1074 = NP at *
  generalize n.natAbs * P1074 = MP at *
  generalize n.natAbs = m at *
  cases hneg : neg f <;> cases hd : decide (n < 0) <;> simp only [sgn, Bool.false_eq_true, if_true, if_false]
  all_goals
    refine ⟨fun h => ?_, fun h => ?_, fun h g => ?_⟩
    · by_cases e : m = 0
      · have := hz e; have := hn0 this; omega
      · have := hm0 (by omega); omega
    · by_cases e : m = 0
      · have := hz e; have := hn0 this; omega
      · have := hm0 (by omega); omega
    · have := hmn (hex.2 h); omega

theorem int_of (a v : Nat) (h : rung a < I) (hv : V (rung a) = v * P1074) (b1 : -9223372036854775808 ≤ sgn (neg a) v) (b2 : sgn (neg a) v ≤ 9223372036854775807) :
    floatToIntVal .f64 a .i64 = some (sgn (neg a) v) := by
  have e := toInt_V a v h hv
  unfold floatToIntVal
  rw [e]
  simp only []
  rw [if_pos]
  have hmin : IntKind.i64.min = -9223372036854775808 := by decide
  have hmax : IntKind.i64.max = 9223372036854775807 := by decide
  rw [hmin, hmax]
  exact ⟨b1, b2⟩

theorem sgn_mul (s : Bool) (a p : Nat) : sgn s (a * p) = sgn s a * (p : Int) := by
  unfold sgn
  cases s
  · simp
  · simp [Int.neg_mul]

/-- Where n is not the word next to it, and f is that word. -/
theorem inexact_facts (n : Int) (f : Nat) (h1 : -9223372036854775808 ≤ n) (h2 : n ≤ 9223372036854775807) (hx : exactB n.natAbs = false) (hk : key f = key (wholeBits n)) :
    (key C63 ≤ key f → NV n < SV f) ∧ (key f < key C63 → ∃ v, floatToIntVal .f64 f .i64 = some v ∧ (n < v ↔ NV n < SV f) ∧ (v < n ↔ SV f < NV n)) := by
  have hs := (SV_eq _ _).1 hk
  rw [SV_whole n h1 h2] at hs
  have hne : near n.natAbs ≠ n.natAbs := fun e => by rw [near_exact] at e; rw [e] at hx; cases hx
  have hle := near_le n.natAbs (by omega)
  have hm0 : n.natAbs ≠ 0 := fun e => hne (by rw [e]; exact near_zero)
  have hN0 : near n.natAbs ≠ 0 := by
    intro e
    have hb := (V_between n.natAbs (rungOf 1)).2
    rw [V_rung 1 (by omega), e] at hb
    have h11 : near 1 = 1 := by decide
    rw [h11] at hb
    have hP := P1074_pos
    have := (V_between n.natAbs (rungOf 1)).1
    rw [V_rung 1 (by omega), e, h11, Nat.zero_mul, Nat.one_mul] at this
    have h3 : P1074 ≤ n.natAbs * P1074 := Nat.le_mul_of_pos_left _ (by omega)
    have := this h3
    omega
  have hP := P1074_pos
  constructor
  · intro hc
    have hc' : SV C63 ≤ SV f := by
      have := SV_lt f C63
      omega
    rw [SV_C63, hs] at hc'
    rw [hs]
    rw [NV_sgn] at hc' ⊢
    have h63 : (9223372036854775808 : Int).natAbs = 9223372036854775808 := rfl
    rw [h63] at hc'
    have hd63 : decide ((9223372036854775808 : Int) < 0) = false := rfl
    rw [hd63] at hc'
    have hq : n.natAbs < 9223372036854775808 ∨ n < 0 := by omega
    by_cases hn : n < 0
    · simp only [hn, decide_true, sgn, if_true, Bool.false_eq_true, if_false] at hc'
      have : 0 < 9223372036854775808 * P1074 := Nat.mul_pos (by decide) hP
      omega
    · simp only [hn, decide_false, sgn, Bool.false_eq_true, if_false] at hc' ⊢
      have h3 : n.natAbs * P1074 < 9223372036854775808 * P1074 := Nat.mul_lt_mul_of_pos_right (by omega) hP
      omega
  · intro hc
    have hc' : SV f < SV C63 := (SV_lt f C63).1 hc
    rw [SV_C63, hs, NV_sgn] at hc'
    have h63 : (9223372036854775808 : Int).natAbs = 9223372036854775808 := rfl
    have hd63 : decide ((9223372036854775808 : Int) < 0) = false := rfl
    rw [h63, hd63] at hc'
    have hr : rung f = rung (wholeBits n) := by
      unfold key sgn at hk
      revert hk
      cases neg f <;> cases neg (wholeBits n) <;> simp only [Bool.false_eq_true, if_true, if_false] <;> omega
    obtain ⟨hr2, hn2, _⟩ := rung_whole n h1 h2
    rw [hr2] at hr
    have hV : V (rung f) = near n.natAbs * P1074 := by rw [hr]; exact V_rung _ (by omega)
    have hI : rung f < I := by
      have hb : rungOf n.natAbs ≤ 1087 * B := (rungOf_bd n.natAbs (by omega) (by omega)).2
      have : 1087 * B < I := by decide
      rw [hr]; omega
    have hneg : neg f = decide (n < 0) := by
      unfold SV at hs
      rw [hV] at hs
      have : 0 < near n.natAbs * P1074 := Nat.mul_pos (by omega) hP
      generalize near n.natAbs * P1074 = Q at *
      cases h : neg f <;> cases h' : decide (n < 0) <;> rw [h, h'] at hs <;> simp [sgn] at hs ⊢ <;> omega
    have hlt63 : n < 0 ∨ near n.natAbs < 9223372036854775808 := by
      by_cases hn : n < 0
      · exact .inl hn
      · right
        simp only [hn, decide_false, sgn, Bool.false_eq_true, if_false] at hc'
        have h5 : near n.natAbs * P1074 < 9223372036854775808 * P1074 := by omega
        exact Nat.lt_of_mul_lt_mul_right h5
    have hi := int_of f (near n.natAbs) hI hV (by
      rw [hneg]
      by_cases hn : n < 0
      · simp only [hn, decide_true, sgn, if_true]; omega
      · simp only [hn, decide_false, sgn, Bool.false_eq_true, if_false]; omega) (by
      rw [hneg]
      by_cases hn : n < 0
      · simp only [hn, decide_true, sgn, if_true]; omega
      · simp only [hn, decide_false, sgn, Bool.false_eq_true, if_false]; omega)
    refine ⟨_, hi, ?_, ?_⟩
    · rw [hs, hneg, sgn_mul, ← NV_lt]; rfl
    · rw [hs, hneg, sgn_mul, ← NV_lt]; rfl

/-- The whole part of a word. -/
def part (f : Nat) : Nat := V (rung f) / P1074
theorem part_facts (n : Int) (f : Nat) : (n < sgn (neg f) (part f) → NV n < SV f) ∧ (sgn (neg f) (part f) < n → SV f < NV n) ∧ (n = sgn (neg f) (part f) → NV n = sgn (neg f) (part f * P1074)) := by
  have hP := P1074_pos
  have hd := Nat.div_add_mod (V (rung f)) P1074
  have hm := Nat.mod_lt (V (rung f)) hP
  unfold SV part
  generalize hq : V (rung f) / P1074 = q at *
  generalize V (rung f) % P1074 = rest at *
  generalize V (rung f) = v at *
  have hq2 : ∀ x y : Int, x ≤ y → x * (P1074 : Int) ≤ y * (P1074 : Int) := fun x y h => Int.mul_le_mul_of_nonneg_right h (by omega)
  have e1 : ((n + 1) * (P1074 : Int)) = n * (P1074 : Int) + (P1074 : Int) := by rw [Int.add_mul, Int.one_mul]
  have e2 : ((n - 1) * (P1074 : Int)) = n * (P1074 : Int) - (P1074 : Int) := by rw [Int.sub_mul, Int.one_mul]
  have hqi : (v : Int) = (q : Int) * (P1074 : Int) + (rest : Int) := by
    rw [← hd, Int.natCast_add, Int.natCast_mul, Int.mul_comm]
  have hnq : (-(q : Int)) * (P1074 : Int) = -((q : Int) * (P1074 : Int)) := Int.neg_mul _ _
  refine ⟨fun h => ?_, fun h => ?_, fun h => ?_⟩
  · unfold NV
    revert h
    cases neg f <;> simp only [sgn, Bool.false_eq_true, if_true, if_false] <;> intro h
    · have := hq2 (n + 1) q (by omega)
      generalize n * (P1074 : Int) = x at *
      generalize (q : Int) * (P1074 : Int) = y at *
      omega
    · have := hq2 (n + 1) (-(q : Int)) (by omega)
      generalize n * (P1074 : Int) = x at *
      generalize (q : Int) * (P1074 : Int) = y at *
      omega
  · unfold NV
    revert h
    cases neg f <;> simp only [sgn, Bool.false_eq_true, if_true, if_false] <;> intro h
    · have := hq2 q (n - 1) (by omega)
      generalize n * (P1074 : Int) = x at *
      generalize (q : Int) * (P1074 : Int) = y at *
      omega
    · have := hq2 (-(q : Int)) (n - 1) (by omega)
      generalize n * (P1074 : Int) = x at *
      generalize (q : Int) * (P1074 : Int) = y at *
      omega
  · rw [sgn_mul, ← h]; rfl

def cmpI (x y : Int) : Int := if x < y then -1 else if x = y then 0 else 1

/-- How two values stand: 0 they cannot be compared; else 1, 2, 3. A value: its kind (1 whole, 2 real, 3 text), number, word, text. -/
def valI (k : Int) (n : Int) (f : Nat) : Int := if k = 1 then NV n else SV f
end Go.Proofs.Ytdmipmkgoefidaa.Fl
