/- Rounding of whole numbers and of quotients to float64 words: plain arithmetic. -/
import Derived.Test.YtdmipmkgoefidaaFl
namespace Go.Proofs.Ytdmipmkgoefidaa.Fl
open Ieee
set_option linter.unusedSimpArgs false
set_option linter.unusedVariables false

def len (n : Nat) : Nat := if n = 0 then 0 else n.log2 + 1
theorem len_zero : len 0 = 0 := rfl
theorem len_pos {n : Nat} (h : 0 < n) : len n = n.log2 + 1 := by unfold len; rw [if_neg (by omega)]
theorem len_half {n : Nat} (h : 0 < n) : len n = len (n / 2) + 1 := by
  rw [len_pos h]
  unfold len
  by_cases h1 : n / 2 = 0
  · rw [if_pos h1]
    have : n = 1 := by omega
    subst this; decide
  · rw [if_neg h1]
    have e := Nat.log2_def n
    rw [if_pos (by omega)] at e
    omega
theorem len_lt {n : Nat} (h : 0 < n) : n < 2 ^ len n := by
  rw [len_pos h]; exact Nat.lt_log2_self
theorem len_le_self {n : Nat} (h : 0 < n) : 2 ^ (len n - 1) ≤ n := by
  rw [len_pos h]; exact Nat.log2_self_le (by omega)
theorem len_le {n j : Nat} (h : n < 2 ^ j) : len n ≤ j := by
  by_cases h0 : n = 0
  · subst h0; simp [len]
  · have h1 := len_le_self (n := n) (by omega)
    have h2 : 2 ^ (len n - 1) < 2 ^ j := Nat.lt_of_le_of_lt h1 h
    have := (Nat.pow_lt_pow_iff_right (a := 2) (by decide)).1 h2
    omega
theorem len_ge {n j : Nat} (h : 2 ^ j ≤ n) : j + 1 ≤ len n := by
  have hp : 0 < n := Nat.lt_of_lt_of_le (Nat.two_pow_pos j) h
  have h1 := len_lt hp
  have h2 : 2 ^ j < 2 ^ len n := Nat.lt_of_le_of_lt h h1
  have := (Nat.pow_lt_pow_iff_right (a := 2) (by decide)).1 h2
  omega
theorem len_eq {n j : Nat} (h1 : 2 ^ j ≤ n) (h2 : n < 2 ^ (j + 1)) : len n = j + 1 := by
  have := len_ge h1
  have := len_le h2
  omega

def up (low rest half : Nat) (more : Bool) : Bool := decide (half < rest) || (decide (rest = half) && (more || decide (low % 2 = 1)))
def rnd (n x : Nat) (more : Bool) : Nat :=
  if len n ≤ 53 then x * 4503599627370496 + n * 2 ^ (53 - len n) % 4503599627370496
  else x * 4503599627370496 + (n / 2 ^ (len n - 53) + (up (n / 2 ^ (len n - 53)) (n % 2 ^ (len n - 53)) (2 ^ (len n - 53 - 1)) more).toNat) - 4503599627370496

theorem rnd_small {n : Nat} (x : Nat) (more : Bool) (h : len n ≤ 53) : rnd n x more = x * 4503599627370496 + n * 2 ^ (53 - len n) % 4503599627370496 := by unfold rnd; rw [if_pos h]
theorem rnd_up {n : Nat} (x : Nat) (more : Bool) (h : ¬ len n ≤ 53) (hu : up (n / 2 ^ (len n - 53)) (n % 2 ^ (len n - 53)) (2 ^ (len n - 53 - 1)) more = true) : rnd n x more = x * 4503599627370496 + (n / 2 ^ (len n - 53) + 1) - 4503599627370496 := by unfold rnd; rw [if_neg h, hu]; rfl
theorem rnd_down {n : Nat} (x : Nat) (more : Bool) (h : ¬ len n ≤ 53) (hu : up (n / 2 ^ (len n - 53)) (n % 2 ^ (len n - 53)) (2 ^ (len n - 53 - 1)) more = false) : rnd n x more = x * 4503599627370496 + n / 2 ^ (len n - 53) - 4503599627370496 := by unfold rnd; rw [if_neg h, hu]; rfl

theorem low_bd {n : Nat} (h : 53 < len n) : 4503599627370496 ≤ n / 2 ^ (len n - 53) ∧ n / 2 ^ (len n - 53) < 9007199254740992 := by
  have hp : 0 < n := by
    by_cases h0 : n = 0
    · subst h0; simp [len] at h
    · omega
  have a := len_lt hp
  have b := len_le_self hp
  constructor
  · rw [Nat.le_div_iff_mul_le (Nat.two_pow_pos _)]
    refine Nat.le_trans ?_ b
    rw [show (4503599627370496 : Nat) = 2 ^ 52 from rfl, ← Nat.pow_add]
    exact Nat.pow_le_pow_right (by decide) (by omega)
  · rw [Nat.div_lt_iff_lt_mul (Nat.two_pow_pos _)]
    refine Nat.lt_of_lt_of_le a ?_
    rw [show (9007199254740992 : Nat) = 2 ^ 53 from rfl, ← Nat.pow_add]
    exact Nat.pow_le_pow_right (by decide) (by omega)

theorem shifted_bd {n : Nat} (hn : 0 < n) (h : len n ≤ 53) : 4503599627370496 ≤ n * 2 ^ (53 - len n) ∧ n * 2 ^ (53 - len n) < 9007199254740992 := by
  have a := len_lt hn
  have b := len_le_self hn
  have hl : 0 < len n := by rw [len_pos hn]; omega
  constructor
  · rw [show (4503599627370496 : Nat) = 2 ^ (len n - 1) * 2 ^ (53 - len n) by rw [← Nat.pow_add, show len n - 1 + (53 - len n) = 52 by omega]]
    exact Nat.mul_le_mul_right _ b
  · rw [show (9007199254740992 : Nat) = 2 ^ len n * 2 ^ (53 - len n) by rw [← Nat.pow_add, show len n + (53 - len n) = 53 by omega]]
    exact Nat.mul_lt_mul_of_pos_right a (Nat.two_pow_pos _)

theorem rnd_bd (n x : Nat) (more : Bool) (h : 1 ≤ x) (hn : 0 < n) : x * 4503599627370496 ≤ rnd n x more ∧ rnd n x more ≤ (x + 1) * 4503599627370496 := by
  unfold rnd
  by_cases h1 : len n ≤ 53
  · rw [if_pos h1]
    have := Nat.mod_lt (n * 2 ^ (53 - len n)) (y := 4503599627370496) (by decide)
    omega
  · rw [if_neg h1]
    have := low_bd (n := n) (by omega)
    have hu : (up (n / 2 ^ (len n - 53)) (n % 2 ^ (len n - 53)) (2 ^ (len n - 53 - 1)) more).toNat ≤ 1 := Bool.toNat_le _
    omega

theorem nearest_eq (s : Bool) (n x : Nat) (place : Int) (hn : 0 < n) (hx : (x : Int) = 1022 + (len n : Int) + place) (h1 : 1 ≤ x) (h2 : x ≤ 2045) :
    double.nearest s n place = double.word s (rnd n x false) := by
  have hb := rnd_bd n x false h1 hn
  unfold Format.nearest
  rw [if_neg (by omega)]
  simp only []
  have hlp : double.leastPlace = -1074 := by decide
  have hfb : double.fractionBits = 52 := rfl
  have hL := len_pos hn
  have hlast : max (place + (n.log2 : Int) - (double.fractionBits : Nat)) double.leastPlace = (x : Int) - 1075 := by
    rw [hlp, hfb]; omega
  rw [hlast, hlp, infRung_eq, binade_eq]
  congr 1
  have e0 : ((x : Int) - 1075 - -1074).toNat = x - 1 := by omega
  rw [e0]
  have key : (x - 1) * B + Toward.even.cut s (n <<< (place - ((x : Int) - 1075)).toNat) ((x : Int) - 1075 - place).toNat = rnd n x false := by
    unfold rnd
    by_cases hk : len n ≤ 53
    · rw [if_pos hk]
      have e1 : (place - ((x : Int) - 1075)).toNat = 53 - len n := by omega
      have e2 : ((x : Int) - 1075 - place).toNat = 0 := by omega
      rw [e1, e2, Nat.shiftLeft_eq]
      have hs := shifted_bd hn hk
      generalize n * 2 ^ (53 - len n) = M at *
      unfold Toward.cut
      simp only [Nat.zero_min, Nat.shiftLeft_zero, Nat.div_one, Nat.mod_one, Nat.mul_zero]
      have : B = 4503599627370496 := rfl
      rw [this]
      simp
      omega
    · rw [if_neg hk]
      have e1 : (place - ((x : Int) - 1075)).toNat = 0 := by omega
      have e2 : ((x : Int) - 1075 - place).toNat = len n - 53 := by omega
      rw [e1, e2, Nat.shiftLeft_zero]
      have hlow := low_bd (n := n) (by omega)
      unfold Toward.cut
      have hmin : min (len n - 53) (n.log2 + 2) = len n - 53 := by omega
      simp only [hmin, Nat.shiftLeft_eq, Nat.one_mul]
      have hB : B = 4503599627370496 := rfl
      have hgap : (2 : Nat) ^ (len n - 53) = 2 * 2 ^ (len n - 53 - 1) := by
        rw [← Nat.pow_succ']; congr 1; omega
      have hup : (decide (2 ^ (len n - 53) < 2 * (n % 2 ^ (len n - 53))) || (2 ^ (len n - 53) == 2 * (n % 2 ^ (len n - 53)) && n / 2 ^ (len n - 53) % 2 == 1)) = up (n / 2 ^ (len n - 53)) (n % 2 ^ (len n - 53)) (2 ^ (len n - 53 - 1)) false := by
        unfold up
        generalize n / 2 ^ (len n - 53) = low
        generalize n % 2 ^ (len n - 53) = rest
        rw [hgap]
        generalize 2 ^ (len n - 53 - 1) = half
        rw [Bool.eq_iff_iff]
        simp
        omega
      rw [hup, hB]
      omega
  rw [key]
  have hI : I = 2047 * 4503599627370496 := rfl
  rw [Nat.min_eq_left]
  rw [hI]
  refine Nat.le_trans hb.2 (Nat.mul_le_mul_right _ (by omega))

theorem len_join (q : Nat) (hq : 0 < q) : ∀ j m, m < 2 ^ j → len (2 ^ j * q + m) = len q + j := by
  intro j
  induction j with
  | zero => intro m hm; simp at hm; subst hm; simp
  | succ j ih =>
    intro m hm
    have hpos : 0 < 2 ^ (j + 1) * q + m := Nat.lt_of_lt_of_le (Nat.mul_pos (Nat.two_pow_pos _) hq) (Nat.le_add_right _ _)
    rw [len_half hpos]
    have : (2 ^ (j + 1) * q + m) / 2 = 2 ^ j * q + m / 2 := by
      rw [Nat.pow_succ, show 2 ^ j * 2 * q = 2 * (2 ^ j * q) by rw [Nat.mul_comm (2 ^ j) 2, Nat.mul_assoc]]
      omega
    rw [this, ih _ (by rw [Nat.pow_succ] at hm; omega)]
    omega
theorem quot_len1 (A n : Nat) (hq : 0 < A / n) : len (2 * (A / n) + (A % n != 0).toNat) = len (A / n) + 1 := by
  have hs : (A % n != 0).toNat ≤ 1 := Bool.toNat_le _
  rw [len_half (by omega)]; congr 2; omega
theorem quot_len8 (A n : Nat) (hn : 0 < n) (hq : 0 < A / n) : len (256 * A / n) = len (A / n) + 8 := by
  have hA := Nat.div_add_mod A n
  have hr := Nat.mod_lt A hn
  have hW : 256 * A / n = 256 * (A / n) + 256 * (A % n) / n := by
    have : 256 * A = n * (256 * (A / n)) + 256 * (A % n) := by
      rw [Nat.mul_left_comm, ← Nat.mul_add, hA]
    rw [this, Nat.mul_add_div hn]
  have hv : 256 * (A % n) / n < 256 := by
    rw [Nat.div_lt_iff_lt_mul hn]
    exact Nat.mul_lt_mul_of_pos_left hr (by decide)
  rw [hW]
  exact len_join (A / n) hq 8 _ hv

/-- The quotient's rounding, by two more or by eight more digits. -/
theorem quot_rnd (A n x : Nat) (hn : 0 < n) (hq : 9007199254740992 ≤ A / n) :
    rnd (2 * (A / n) + (A % n != 0).toNat) x false = rnd (256 * A / n) x (decide (0 < 256 * A % n)) := by
  have hqp : 0 < A / n := by omega
  have hA := Nat.div_add_mod A n
  have hr := Nat.mod_lt A hn
  have hW : 256 * A / n = 256 * (A / n) + 256 * (A % n) / n := by
    have : 256 * A = n * (256 * (A / n)) + 256 * (A % n) := by
      rw [Nat.mul_left_comm, ← Nat.mul_add, hA]
    rw [this, Nat.mul_add_div hn]
  have hM : 256 * A % n = 256 * (A % n) % n := by rw [Nat.mul_mod 256 A, Nat.mul_mod 256 (A % n), Nat.mod_mod]
  have hv : 256 * (A % n) / n < 256 := by
    rw [Nat.div_lt_iff_lt_mul hn]
    exact Nat.mul_lt_mul_of_pos_left hr (by decide)
  have hs : (A % n != 0).toNat ≤ 1 := Bool.toNat_le _
  have hl := len_ge (j := 53) (n := A / n) hq
  have l1 := quot_len1 A n hqp
  have l2 := quot_len8 A n hn hqp
  unfold rnd
  rw [l1, l2, if_neg (by omega), if_neg (by omega)]
  obtain ⟨t, ht⟩ : ∃ t, len (A / n) = t + 53 := ⟨len (A / n) - 53, by omega⟩
  have ht1 : 1 ≤ t := by omega
  rw [ht]
  have d1 : t + 53 + 1 - 53 = t + 1 := by omega
  have d2 : t + 53 + 8 - 53 = t + 8 := by omega
  have d3 : t + 53 + 1 - 53 - 1 = t := by omega
  have d4 : t + 53 + 8 - 53 - 1 = t + 7 := by omega
  rw [d1, d2]
  simp only [Nat.add_sub_cancel, show t + 8 - 1 = t + 7 from rfl]
  -- the digits kept are the same, and so is what is left over, as far as it counts
  have low1 : (2 * (A / n) + (A % n != 0).toNat) / 2 ^ (t + 1) = A / n / 2 ^ t := by
    rw [Nat.pow_succ', ← Nat.div_div_eq_div_mul]; congr 1; omega
  have low2 : 256 * A / n / 2 ^ (t + 8) = A / n / 2 ^ t := by
    rw [show 2 ^ (t + 8) = 2 ^ 8 * 2 ^ t by rw [Nat.add_comm, Nat.pow_add], ← Nat.div_div_eq_div_mul, hW]; generalize 256 * (A % n) / n = v at *; congr 1; omega
  have rest1 : (2 * (A / n) + (A % n != 0).toNat) % 2 ^ (t + 1) = 2 * (A / n % 2 ^ t) + (A % n != 0).toNat := by
    rw [Nat.pow_succ', Nat.mod_mul]; 
    have a1 : (2 * (A / n) + (A % n != 0).toNat) % 2 = (A % n != 0).toNat := by omega
    have a2 : (2 * (A / n) + (A % n != 0).toNat) / 2 = A / n := by omega
    rw [a1, a2]; omega
  have rest2 : 256 * A / n % 2 ^ (t + 8) = 256 * (A / n % 2 ^ t) + 256 * (A % n) / n := by
    rw [show 2 ^ (t + 8) = 2 ^ 8 * 2 ^ t by rw [Nat.add_comm, Nat.pow_add], Nat.mod_mul, hW]
    generalize 256 * (A % n) / n = v at *
    have a1 : (256 * (A / n) + v) % 2 ^ 8 = v := by omega
    have a2 : (256 * (A / n) + v) / 2 ^ 8 = A / n := by omega
    rw [a1, a2]; omega
  rw [low1, low2, rest1, rest2]
  rw [hM]
  have hmore : A % n = 0 ∨ (0 < A % n ∧ (0 < 256 * (A % n) / n ∨ 0 < 256 * (A % n) % n)) := by
    by_cases h0 : A % n = 0
    · exact .inl h0
    · right
      refine ⟨by omega, ?_⟩
      have := Nat.div_add_mod (256 * (A % n)) n
      by_cases hz : 256 * (A % n) / n = 0
      · right; rw [hz] at this; omega
      · left; exact Nat.pos_of_ne_zero hz
  obtain ⟨h, hh⟩ : ∃ h, 2 ^ t = 2 * h := ⟨2 ^ (t - 1), by rw [← Nat.pow_succ']; congr 1; omega⟩
  have hh7 : 2 ^ (t + 7) = 256 * h := by rw [Nat.pow_add, hh]; omega
  have hup : up (A / n / 2 ^ t) (2 * (A / n % 2 ^ t) + (A % n != 0).toNat) (2 ^ t) false = up (A / n / 2 ^ t) (256 * (A / n % 2 ^ t) + 256 * (A % n) / n) (2 ^ (t + 7)) (decide (0 < 256 * (A % n) % n)) := by
    unfold up
    rw [hh7, hh]
    generalize A / n % (2 * h) = u
    generalize A / n / (2 * h) = low
    rcases hmore with h0 | ⟨h0, h1⟩
    · rw [h0]
      rw [Bool.eq_iff_iff]; simp
      omega
    · have hb : (A % n != 0) = true := by rw [bne_iff_ne]; omega
      rw [hb]
      generalize 256 * (A % n) / n = v at *
      generalize 256 * (A % n) % n = m at *
      rw [Bool.eq_iff_iff]; simp
      omega
  rw [hup]
end Go.Proofs.Ytdmipmkgoefidaa.Fl
