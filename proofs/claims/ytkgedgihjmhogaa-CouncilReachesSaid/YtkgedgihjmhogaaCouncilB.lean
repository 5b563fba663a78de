/- The contract of what the reference's council has reached. -/
import Derived.Test.YtkgedgihjmhogaaCoF
import Derived.Test.YtkgedgihjmhogaaQuiet
namespace Go.Proofs.Ytkgedgihjmhogaa.Council
open Go.RowKit Mem
set_option linter.unusedSimpArgs false
set_option linter.unusedVariables false

/-- How many nodes below j have reached what node i has. -/
def geTo (k : Nat) (f : Nat → Int) (i : Nat) : Nat → Nat
  | 0 => 0
  | j + 1 => if Co.hb k j && decide (f i ≤ f j) then geTo k f i j + 1 else geTo k f i j
theorem geTo_le (k : Nat) (f : Nat → Int) (i : Nat) : ∀ j, geTo k f i j ≤ j
  | 0 => Nat.le_refl _
  | j + 1 => by unfold geTo; have := geTo_le k f i j; split <;> omega
theorem geTo_eq (k : Nat) (f : Nat → Int) (i : Nat) : ∀ j, geTo k f i j = (Co.nodesTo k j).countP (fun l => decide (f i ≤ f l))
  | 0 => rfl
  | j + 1 => by
    unfold geTo
    rw [geTo_eq k f i j, Co.nodesTo_step]
    cases hb : Co.hb k j
    · simp
    · by_cases h : f i ≤ f j
      · simp [h, List.countP_append]
      · simp [h, List.countP_append]

/-- The best of the nodes below j that more than half have reached. -/
def bestTo (k : Nat) (f : Nat → Int) : Nat → Int × Bool
  | 0 => (0, false)
  | i + 1 =>
    let p := bestTo k f i
    if Co.hb k i = true ∧ Co.cnt k < 2 * geTo k f i 7 ∧ (p.2 = false ∨ p.1 < f i) then (f i, true) else p
theorem bestTo_none (k : Nat) (f : Nat → Int) : ∀ i, (bestTo k f i).2 = false → (bestTo k f i).1 = 0
  | 0, _ => rfl
  | i + 1, h => by
    unfold bestTo at h ⊢
    by_cases hc : Co.hb k i = true ∧ Co.cnt k < 2 * geTo k f i 7 ∧ ((bestTo k f i).2 = false ∨ (bestTo k f i).1 < f i)
    · simp only [hc, and_self, if_true] at h; cases h
    · simp only [hc, if_false] at h ⊢; exact bestTo_none k f i h

/-- What is told of the best: of those below i. -/
theorem bestTo_inv (k : Nat) (f : Nat → Int) : ∀ i,
    (∀ l, l < i → Co.hb k l = true → Co.cnt k < 2 * geTo k f l 7 → (bestTo k f i).2 = true ∧ f l ≤ (bestTo k f i).1) ∧
    ((bestTo k f i).2 = true → ∃ l, l < i ∧ Co.hb k l = true ∧ Co.cnt k < 2 * geTo k f l 7 ∧ f l = (bestTo k f i).1)
  | 0 => ⟨fun l h => by omega, fun h => by cases h⟩
  | i + 1 => by
    obtain ⟨h1, h2⟩ := bestTo_inv k f i
    by_cases hc : Co.hb k i = true ∧ Co.cnt k < 2 * geTo k f i 7 ∧ ((bestTo k f i).2 = false ∨ (bestTo k f i).1 < f i)
    · have e : bestTo k f (i + 1) = (f i, true) := by
        show (if Co.hb k i = true ∧ Co.cnt k < 2 * geTo k f i 7 ∧ ((bestTo k f i).2 = false ∨ (bestTo k f i).1 < f i) then (f i, true) else bestTo k f i) = _
        rw [if_pos hc]
      rw [e]
      refine ⟨fun l hl hb hg => ⟨rfl, ?_⟩, fun _ => ⟨i, by omega, hc.1, hc.2.1, rfl⟩⟩
      by_cases hli : l = i
      · subst hli; exact Int.le_refl _
      · obtain ⟨h3, h4⟩ := h1 l (by omega) hb hg
        rcases hc.2.2 with h5 | h5
        · rw [h3] at h5; cases h5
        · show f l ≤ f i; omega
    · have e : bestTo k f (i + 1) = bestTo k f i := by
        show (if Co.hb k i = true ∧ Co.cnt k < 2 * geTo k f i 7 ∧ ((bestTo k f i).2 = false ∨ (bestTo k f i).1 < f i) then (f i, true) else bestTo k f i) = _
        rw [if_neg hc]
      rw [e]
      refine ⟨fun l hl hb hg => ?_, fun h => ?_⟩
      · by_cases hli : l = i
        · subst hli
          cases h3 : (bestTo k f l).2
          · exact absurd ⟨hb, hg, .inl h3⟩ hc
          · refine ⟨rfl, ?_⟩
            rcases Int.lt_or_le (bestTo k f l).1 (f l) with h4 | h4
            · exact absurd ⟨hb, hg, .inr h4⟩ hc
            · exact h4
        · exact h1 l (by omega) hb hg
      · obtain ⟨l, hl, h3⟩ := h2 h
        exact ⟨l, by omega, h3⟩

theorem best_is (k : Nat) (f : Nat → Int) : (bestTo k f 7).1 = reachL ((Co.nodesL k).map f) := by
  have hlen : ((Co.nodesL k).map f).length = Co.cnt k := by rw [List.length_map]; rfl
  obtain ⟨h1, h2⟩ := bestTo_inv k f 7
  have hge : ∀ l, geTo k f l 7 = ((Co.nodesL k).map f).countP (fun y => decide (f l ≤ y)) := fun l => by
    rw [geTo_eq, List.countP_map]; rfl
  by_cases hz : Co.cnt k = 0
  · have hr : reachL ((Co.nodesL k).map f) = 0 := by unfold reachL; rw [if_pos (by omega)]
    rw [hr]
    apply bestTo_none
    cases hb : (bestTo k f 7).2
    · rfl
    · obtain ⟨l, hl, hb2, hg, _⟩ := h2 hb
      have h3 := Co.cntTo_le k 7
      have : geTo k f l 7 ≤ Co.cnt k := by rw [hge, ← hlen]; exact List.countP_le_length
      omega
  · obtain ⟨g1, g2, g3⟩ := reach_facts ((Co.nodesL k).map f) (by omega)
    rw [hlen] at g2 g3
    rw [List.mem_map] at g1
    obtain ⟨i, hi, he⟩ := g1
    unfold Co.nodesL at hi
    rw [List.mem_filter, List.mem_range] at hi
    have hgi : Co.cnt k < 2 * geTo k f i 7 := by rw [hge, he]; omega
    obtain ⟨h3, h4⟩ := h1 i hi.1 hi.2 hgi
    obtain ⟨l, hl, hb2, hg, h5⟩ := h2 h3
    rcases Int.lt_or_le (reachL ((Co.nodesL k).map f)) (bestTo k f 7).1 with h6 | h6
    · exfalso
      have h7 : geTo k f l 7 ≤ ((Co.nodesL k).map f).countP (fun y => decide (reachL ((Co.nodesL k).map f) < y)) := by
        rw [hge]
        apply List.countP_mono_left
        intro y hy h8
        simp only [decide_eq_true_iff] at h8 ⊢
        omega
      omega
    · omega
end Go.Proofs.Ytkgedgihjmhogaa.Council
