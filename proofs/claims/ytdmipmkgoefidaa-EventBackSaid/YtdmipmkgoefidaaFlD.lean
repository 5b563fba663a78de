/- The quotient of two whole numbers' float64 words: plain arithmetic. -/
import Derived.Test.YtdmipmkgoefidaaFlW
namespace Go.Proofs.Ytdmipmkgoefidaa.Fl
open Ieee
set_option linter.unusedSimpArgs false
set_option linter.unusedVariables false

theorem read_norm (a : Nat) (h1 : B ≤ rung a) (h2 : rung a < I) : double.read a = .number (neg a) (B + rung a % B) (-1075 + ((rung a / B : Nat) : Int)) := by
  unfold Format.read
  rw [infRung_eq, binade_eq, signWeight_eq]
  simp only []
  have h1' : ¬ a % H < B := by unfold rung at h1; omega
  have h2' : a % H < I := h2
  rw [if_neg h1', if_pos h2']
  have hlp : double.leastPlace = -1074 := by decide
  have hq : 1 ≤ a % H / B := (Nat.le_div_iff_mul_le B_pos).2 (by unfold rung at h1; omega)
  rw [hlp]
  simp only [neg, rung]
  congr 1
  omega

def quotW (a b : Nat) : Nat := (B + a % B) * 4611686018427387904 / (B + b % B)
def quotMore (a b : Nat) : Bool := decide (0 < (B + a % B) * 4611686018427387904 % (B + b % B))

theorem mant_bd (a : Nat) : 4503599627370496 ≤ B + a % B ∧ B + a % B < 9007199254740992 := by
  have := Nat.mod_lt a B_pos
  have hB : B = 4503599627370496 := rfl
  rw [hB] at *
  omega

theorem quotW_bd (a b : Nat) : 2305843009213693952 < quotW a b ∧ quotW a b < 9223372036854775808 := by
  have ha := mant_bd a
  have hb := mant_bd b
  unfold quotW
  generalize B + a % B = m at *
  generalize B + b % B = n at *
  constructor
  · rw [Nat.lt_iff_add_one_le, Nat.le_div_iff_mul_le (by omega)]
    omega
  · rw [Nat.div_lt_iff_lt_mul (by omega)]
    omega

theorem quotW_len (a b : Nat) : len (quotW a b) = 62 ∨ len (quotW a b) = 63 := by
  have h := quotW_bd a b
  have h1 := len_ge (j := 61) (n := quotW a b) (by omega)
  have h2 := len_le (j := 63) (n := quotW a b) (by omega)
  omega

theorem div_eq (a b x : Nat) (a1 : B ≤ rung a) (a2 : rung a < I) (b1 : B ≤ rung b) (b2 : rung b < I)
    (hx : (x : Int) = 1022 + (len (quotW (rung a) (rung b)) : Int) + (((rung a / B : Nat) : Int) - ((rung b / B : Nat) : Int)) - 62) (h1 : 1 ≤ x) (h2 : x ≤ 2045) :
    double.div a b = some (double.word (neg a ^^ neg b) (rnd (quotW (rung a) (rung b)) x (quotMore (rung a) (rung b)))) := by
  unfold Format.div
  rw [read_norm a a1 a2, read_norm b b1 b2]
  have ma := mant_bd (rung a)
  have mb := mant_bd (rung b)
  unfold quotMore
  have hqW : quotW (rung a) (rung b) = 256 * ((B + rung a % B) * 18014398509481984) / (B + rung b % B) := by
    unfold quotW; congr 1; omega
  have hqM : (B + rung a % B) * 4611686018427387904 = 256 * ((B + rung a % B) * 18014398509481984) := by omega
  rw [hqM]
  rw [hqW] at hx ⊢
  generalize B + rung a % B = m at *
  generalize B + rung b % B = n at *
  have hfb : double.fractionBits = 52 := rfl
  have lm : m.log2 = 52 := by rw [Nat.log2_eq_iff (by omega)]; exact ⟨by omega, by omega⟩
  have ln : n.log2 = 52 := by rw [Nat.log2_eq_iff (by omega)]; exact ⟨by omega, by omega⟩
  have hn0 : ¬ n = 0 := by omega
  simp only [Datum.quotient, hn0, if_false, hfb, lm, ln, Option.map_some, Format.write]
  have e54 : m <<< (52 + 2 + 52 - 52) = m * 18014398509481984 := by rw [Nat.shiftLeft_eq]
  rw [e54]
  obtain ⟨A, hA⟩ : ∃ A, m * 18014398509481984 = A := ⟨_, rfl⟩
  rw [hA] at hx ⊢
  clear hqM hqW
  have hq : 9007199254740992 ≤ A / n := by rw [Nat.le_div_iff_mul_le (by omega)]; omega
  have hl1 := quot_len1 A n (by omega)
  have hl8 := quot_len8 A n (by omega) (by omega)
  have hpl : (x : Int) = 1022 + (len (2 * (A / n) + (A % n != 0).toNat) : Int) + (-1075 + ((rung a / B : Nat) : Int) - (-1075 + ((rung b / B : Nat) : Int)) - ((52 + 2 + 52 - 52 : Nat) : Int) - 1) := by rw [hl1]; omega
  have hne := nearest_eq (neg a ^^ neg b) (2 * (A / n) + (A % n != 0).toNat) x _ (by omega) hpl h1 h2
  rw [← quot_rnd A n x (by omega) hq, ← hne]

end Go.Proofs.Ytdmipmkgoefidaa.Fl
