/- The masks of what has reached a value: plain facts. -/
import Derived.Test.YtkgedgihjmhogaaCoE
import Derived.Test.YtkgedgihjmhogaaCouncil6
namespace Go.Proofs.Ytkgedgihjmhogaa.Co
set_option linter.unusedSimpArgs false
set_option linter.unusedVariables false

/-- The mask of the first j nodes for which p is so. -/
def maskTo (p : Nat → Bool) : Nat → Nat
  | 0 => 0
  | j + 1 => if p j then maskTo p j ||| 2 ^ j else maskTo p j
theorem hb_pow (j i : Nat) : hb (2 ^ j) i = decide (j = i) := by rw [hb_testBit, Nat.testBit_two_pow]
theorem hb_mask (p : Nat → Bool) : ∀ j i, hb (maskTo p j) i = (decide (i < j) && p i)
  | 0, i => by simp [maskTo, hb_zero]
  | j + 1, i => by
    have ih := hb_mask p j i
    unfold maskTo
    by_cases hp : p j = true
    · rw [if_pos hp, hb_or, hb_pow, ih]
      by_cases hij : j = i
      · subst hij; simp [hp]
      · have : (i < j + 1) ↔ i < j := by omega
        simp [hij, this]
    · rw [if_neg hp, ih]
      by_cases hij : i = j
      · subst hij; simp [hp]
      · have : (i < j + 1) ↔ i < j := by omega
        simp [this]
theorem mask_lt (p : Nat → Bool) : ∀ j, j ≤ 7 → maskTo p j < 128
  | 0, _ => by simp [maskTo]
  | j + 1, h => by
    have ih := mask_lt p j (by omega)
    unfold maskTo
    split
    · exact or_lt _ _ ih (Nat.lt_of_lt_of_le (Nat.pow_lt_pow_right (by decide) (by omega : j < 7)) (by decide))
    · exact ih
theorem cnt_mask (k : Nat) (p : Nat → Bool) : cnt (k &&& maskTo (fun i => hb k i && p i) 7) = (nodesL k).countP p := by
  unfold cnt nodesL
  rw [List.countP_filter, List.countP_eq_length_filter]
  congr 1
  apply List.filter_congr
  intro i hi
  rw [List.mem_range] at hi
  rw [hb_and, hb_mask]
  simp [hi]
  cases hb k i <;> cases p i <;> rfl

/-- What is reached more than half have reached, and what is above it no more than half. -/
theorem line_facts (k : Nat) (f : Nat → Int) (h : cnt k ≠ 0) :
    (∃ i, i < 7 ∧ hb k i = true ∧ f i = Council.reachL ((nodesL k).map f)) ∧
    enK k (maskTo (fun i => hb k i && decide (Council.reachL ((nodesL k).map f) ≤ f i)) 7) = true ∧
    enK k (maskTo (fun i => hb k i && decide (Council.reachL ((nodesL k).map f) < f i)) 7) = false := by
  have hl : ((nodesL k).map f).length = cnt k := by rw [List.length_map]; rfl
  obtain ⟨h1, h2, h3⟩ := Council.reach_facts ((nodesL k).map f) (by omega)
  rw [hl] at h2 h3
  generalize Council.reachL ((nodesL k).map f) = x at *
  refine ⟨?_, ?_, ?_⟩
  · rw [List.mem_map] at h1
    obtain ⟨i, hi, he⟩ := h1
    unfold nodesL at hi
    rw [List.mem_filter, List.mem_range] at hi
    exact ⟨i, hi.1, hi.2, he⟩
  · unfold enK
    rw [cnt_mask, decide_eq_true_iff]
    rw [List.countP_map] at h2
    exact h2
  · unfold enK
    rw [cnt_mask, decide_eq_false_iff_not]
    rw [List.countP_map] at h3
    have : (nodesL k).countP (fun i => decide (x < f i)) = (nodesL k).countP ((fun y => decide (x < y)) ∘ f) := rfl
    omega
end Go.Proofs.Ytkgedgihjmhogaa.Co
