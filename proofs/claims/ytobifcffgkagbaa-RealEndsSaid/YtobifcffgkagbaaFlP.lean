/- The word of the quotient of two whole numbers: plain arithmetic. -/
import Derived.Test.YtobifcffgkagbaaFlD
namespace Go.Proofs.Ytobifcffgkagbaa.Fl
open Ieee
set_option linter.unusedSimpArgs false
set_option linter.unusedVariables false

def expo (p q : Nat) : Nat := (1022 + len (quotW (rungOf p) (rungOf q)) + rungOf p / B) - (rungOf q / B + 62)
def partRung (p q : Nat) : Nat := if q = 0 then I else if p = 0 then 0 else rnd (quotW (rungOf p) (rungOf q)) (expo p q) (quotMore (rungOf p) (rungOf q))
def signOf (s : Bool) : Nat := if s then H else 0
def partBits (p q : Int) : Nat := signOf (decide (p < 0) ^^ decide (q < 0)) + partRung p.natAbs q.natAbs

theorem expo_bd (p q : Nat) (hp : 0 < p) (hq : 0 < q) (hp2 : p ≤ 9223372036854775808) (hq2 : q ≤ 9223372036854775808) :
    1023 ≤ rungOf p / B ∧ rungOf p / B ≤ 1087 ∧ 1023 ≤ rungOf q / B ∧ rungOf q / B ≤ 1087 := by
  have h1 := rungOf_bd p hp hp2
  have h2 := rungOf_bd q hq hq2
  have hB := B_pos
  refine ⟨(Nat.le_div_iff_mul_le hB).2 h1.1, ?_, (Nat.le_div_iff_mul_le hB).2 h2.1, ?_⟩
  · exact Nat.div_le_of_le_mul (by rw [Nat.mul_comm]; exact h1.2)
  · exact Nat.div_le_of_le_mul (by rw [Nat.mul_comm]; exact h2.2)

theorem word_eq (s : Bool) (r : Nat) : double.word s r = signOf s + r := by
  unfold Format.word signOf
  rw [signWeight_eq]
  cases s <;> simp

theorem whole_zero : wholeBits 0 = 0 := by decide

theorem div_whole (p q : Int) (p1 : -9223372036854775808 ≤ p) (p2 : p ≤ 9223372036854775807) (q1 : -9223372036854775808 ≤ q) (q2 : q ≤ 9223372036854775807) (h : p ≠ 0 ∨ q ≠ 0) :
    floatBits .quo .f64 (wholeBits p) (wholeBits q) = some (partBits p q) := by
  show double.div (wholeBits p) (wholeBits q) = _
  obtain ⟨rp, np, _⟩ := rung_whole p p1 p2
  obtain ⟨rq, nq, _⟩ := rung_whole q q1 q2
  have hI : 1087 * B < I := by decide
  have hBB : B ≤ 1023 * B := by decide
  have r0 : double.read 0 = .number false 0 (-1074) := by decide
  by_cases hq : q = 0
  · subst hq
    have hp : 0 < p.natAbs := by omega
    have hb := rungOf_bd p.natAbs hp (by omega)
    rw [whole_zero]
    unfold Format.div
    rw [read_norm (wholeBits p) (by rw [rp]; omega) (by rw [rp]; omega), r0, np]
    have hm := mant_bd (rung (wholeBits p))
    have hz : ¬ B + rung (wholeBits p) % B = 0 := by omega
    simp only [Datum.quotient, hz, if_true, if_false, Option.map_some, Format.write, word_eq, infRung_eq]
    unfold partBits partRung
    simp
  · have hq' : 0 < q.natAbs := by omega
    have hbq := rungOf_bd q.natAbs hq' (by omega)
    by_cases hp : p = 0
    · subst hp
      rw [whole_zero]
      unfold Format.div
      rw [read_norm (wholeBits q) (by rw [rq]; omega) (by rw [rq]; omega), r0, nq]
      have hm := mant_bd (rung (wholeBits q))
      have hz : ¬ B + rung (wholeBits q) % B = 0 := by omega
      simp only [Datum.quotient, hz, if_false, Option.map_some, Format.write]
      have e0 : ∀ k, (0 : Nat) <<< k = 0 := fun k => by simp
      rw [e0, Nat.zero_div, Nat.zero_mod]
      unfold Format.nearest
      simp only [bne_self_eq_false, Bool.toNat_false, Nat.mul_zero, Nat.add_zero, if_true, word_eq]
      unfold partBits partRung
      have : ¬ q.natAbs = 0 := by omega
      simp [this]
    · have hp' : 0 < p.natAbs := by omega
      have hbp := rungOf_bd p.natAbs hp' (by omega)
      have he := expo_bd p.natAbs q.natAbs hp' hq' (by omega) (by omega)
      have hl := quotW_len (rungOf p.natAbs) (rungOf q.natAbs)
      have hx : (expo p.natAbs q.natAbs : Int) = 1022 + (len (quotW (rungOf p.natAbs) (rungOf q.natAbs)) : Int) + (((rungOf p.natAbs / B : Nat) : Int) - ((rungOf q.natAbs / B : Nat) : Int)) - 62 := by
        unfold expo; omega
      rw [div_eq (wholeBits p) (wholeBits q) (expo p.natAbs q.natAbs) (by rw [rp]; omega) (by rw [rp]; omega) (by rw [rq]; omega) (by rw [rq]; omega) (by rw [rp, rq]; exact hx) (by omega) (by omega), word_eq, np, nq, rp, rq]
      unfold partBits partRung
      rw [if_neg (by omega), if_neg (by omega)]

theorem partRung_le (p q : Nat) (hp2 : p ≤ 9223372036854775808) (hq2 : q ≤ 9223372036854775808) : partRung p q ≤ I := by
  unfold partRung
  by_cases hq : q = 0
  · rw [if_pos hq]; exact Nat.le_refl _
  · rw [if_neg hq]
    by_cases hp : p = 0
    · rw [if_pos hp]; exact Nat.zero_le _
    · rw [if_neg hp]
      have he := expo_bd p q (by omega) (by omega) hp2 hq2
      have hl := quotW_len (rungOf p) (rungOf q)
      have hw := quotW_bd (rungOf p) (rungOf q)
      have hx : 1 ≤ expo p q ∧ expo p q ≤ 2045 := by unfold expo; omega
      refine Nat.le_trans (rnd_bd _ (expo p q) _ hx.1 (by omega)).2 ?_
      refine Nat.le_trans (Nat.mul_le_mul_right _ (show expo p q + 1 ≤ 2046 by omega)) ?_
      decide

theorem part_notNan (p q : Int) (p1 : -9223372036854775808 ≤ p) (p2 : p ≤ 9223372036854775807) (q1 : -9223372036854775808 ≤ q) (q2 : q ≤ 9223372036854775807) : nanB (partBits p q) = false := by
  have h := partRung_le p.natAbs q.natAbs (by omega) (by omega)
  have hI : I < H := by decide
  unfold nanB rung partBits signOf
  rw [decide_eq_false_iff_not]
  cases (decide (p < 0) ^^ decide (q < 0))
  · simp only [Bool.false_eq_true, if_false, Nat.zero_add]
    rw [Nat.mod_eq_of_lt (by omega)]; omega
  · simp only [if_true]
    rw [Nat.add_mod_left, Nat.mod_eq_of_lt (by omega)]; omega
end Go.Proofs.Ytobifcffgkagbaa.Fl
