/- The order of texts: plain facts. -/
import Derived.Test.YtdmipmkgoefidaaBt
namespace Go.Proofs.Ytdmipmkgoefidaa.Bt
open Go
set_option linter.unusedSimpArgs false
set_option linter.unusedVariables false

theorem less_tri : ∀ (l m : List UInt8), (Op.bytesLess l m = true ∧ Op.bytesLess m l = false ∧ l ≠ m) ∨ (Op.bytesLess l m = false ∧ Op.bytesLess m l = false ∧ l = m) ∨ (Op.bytesLess l m = false ∧ Op.bytesLess m l = true ∧ l ≠ m)
  | [], [] => by right; left; exact ⟨rfl, rfl, rfl⟩
  | [], b :: m => by left; exact ⟨rfl, rfl, by simp⟩
  | a :: l, [] => by right; right; exact ⟨rfl, rfl, by simp⟩
  | a :: l, b :: m => by
    have ih := less_tri l m
    simp only [Op.bytesLess]
    have tri : a < b ∨ a = b ∨ b < a := by
      rw [UInt8.lt_iff_toNat_lt, UInt8.lt_iff_toNat_lt, ← UInt8.toNat_inj]; omega
    rcases tri with h | h | h
    · left
      have h1 : ¬ b < a := by rw [UInt8.lt_iff_toNat_lt] at *; omega
      have h2 : b ≠ a := by rintro rfl; rw [UInt8.lt_iff_toNat_lt] at h; omega
      refine ⟨by simp [h], ?_, by rintro ⟨⟩; exact h2 rfl⟩
      simp [h1, h2]
    · subst h
      have h1 : ¬ a < a := by rw [UInt8.lt_iff_toNat_lt]; omega
      rcases ih with ⟨i1, i2, i3⟩ | ⟨i1, i2, i3⟩ | ⟨i1, i2, i3⟩
      · left; simp [h1, i1, i2, i3]
      · subst i3; right; left; simp [h1, i1]
      · right; right; simp [h1, i1, i2, i3]
    · right; right
      have h1 : ¬ a < b := by rw [UInt8.lt_iff_toNat_lt] at *; omega
      have h2 : a ≠ b := by rintro rfl; rw [UInt8.lt_iff_toNat_lt] at h; omega
      refine ⟨?_, by simp [h], by rintro ⟨⟩; exact h2 rfl⟩
      simp [h1, h2]

theorem less_trans : ∀ (l m n : List UInt8), Op.bytesLess l m = true → Op.bytesLess m n = true → Op.bytesLess l n = true
  | l, [], _ => by intro h; cases l <;> simp [Op.bytesLess] at h
  | _, _ :: _, [] => by intro _ h; simp [Op.bytesLess] at h
  | [], _ :: _, _ :: _ => by intro _ _; rfl
  | a :: l, b :: m, c :: n => by
    have ih := less_trans l m n
    simp only [Op.bytesLess, Bool.or_eq_true, Bool.and_eq_true, decide_eq_true_iff, beq_iff_eq, UInt8.lt_iff_toNat_lt]
    rintro (h1 | ⟨h1, h2⟩) (h3 | ⟨h3, h4⟩)
    · left; omega
    · subst h3; left; exact h1
    · subst h1; left; exact h3
    · subst h1; subst h3; right; exact ⟨rfl, ih h2 h4⟩

/-- Two texts: how they stand, as a walk asks. -/
theorem str_tri (a b : ByteArray) : (Op.bytesLess a.toList b.toList = true ∧ Op.bytesLess b.toList a.toList = false ∧ (a.toList == b.toList) = false ∧ (b.toList == a.toList) = false) ∨
    (Op.bytesLess a.toList b.toList = false ∧ Op.bytesLess b.toList a.toList = false ∧ (a.toList == b.toList) = true ∧ (b.toList == a.toList) = true) ∨
    (Op.bytesLess a.toList b.toList = false ∧ Op.bytesLess b.toList a.toList = true ∧ (a.toList == b.toList) = false ∧ (b.toList == a.toList) = false) := by
  rcases less_tri a.toList b.toList with ⟨h1, h2, h3⟩ | ⟨h1, h2, h3⟩ | ⟨h1, h2, h3⟩
  · left; exact ⟨h1, h2, by rw [beq_eq_false_iff_ne]; exact h3, by rw [beq_eq_false_iff_ne]; exact Ne.symm h3⟩
  · right; left; exact ⟨h1, h2, by rw [beq_iff_eq]; exact h3, by rw [beq_iff_eq]; exact h3.symm⟩
  · right; right; exact ⟨h1, h2, by rw [beq_eq_false_iff_ne]; exact h3, by rw [beq_eq_false_iff_ne]; exact Ne.symm h3⟩
end Go.Proofs.Ytdmipmkgoefidaa.Bt
