/- Majorities of masks that are near meet. -/
import Derived.Test.YtkgedgihjmhogaaCoC
namespace Go.Proofs.Ytkgedgihjmhogaa.Co
set_option maxRecDepth 100000 in
theorem near_cnt : ∀ a, a < 128 → ∀ b, b < 128 → nearK a b = true → cnt (a ||| b) ≤ cnt a / 2 + cnt b / 2 + 1 := by decide +kernel

theorem some_bit (z : Nat) (h : z < 128) (hz : z ≠ 0) : ∃ i, i < 7 ∧ hb z i = true := by
  have h1 : cnt z ≠ 0 := fun e => hz ((cnt_zero z h).1 e)
  unfold cnt at h1
  obtain ⟨i, hi⟩ := List.exists_mem_of_length_pos (Nat.pos_of_ne_zero h1)
  unfold nodesL at hi
  rw [List.mem_filter, List.mem_range] at hi
  exact ⟨i, hi.1, hi.2⟩
theorem in_union (a b w v : Nat) : (a ||| b) &&& ((a &&& w) ||| (b &&& v)) = (a &&& w) ||| (b &&& v) := by
  apply Nat.eq_of_testBit_eq
  intro i
  simp only [Nat.testBit_and, Nat.testBit_or]
  cases a.testBit i <;> cases b.testBit i <;> cases w.testBit i <;> cases v.testBit i <;> rfl
theorem meets (a b w v : Nat) (ha : a < 128) (hb' : b < 128) (h : nearK a b = true) (hw : cnt a / 2 < cnt (a &&& w)) (hv : cnt b / 2 < cnt (b &&& v)) :
    ∃ i, i < 7 ∧ hb w i = true ∧ hb v i = true ∧ hb a i = true ∧ hb b i = true := by
  have h1 := near_cnt a ha b hb' h
  have h2 := cnt_sub (a ||| b) (or_lt _ _ ha hb') ((a &&& w) ||| (b &&& v)) (or_lt _ _ (and_lt _ _ ha) (and_lt _ _ hb'))
  rw [in_union] at h2
  by_cases hz : (a &&& w) &&& (b &&& v) = 0
  · have := cnt_disj (a &&& w) (and_lt _ _ ha) (b &&& v) (and_lt _ _ hb') hz
    omega
  · obtain ⟨i, hi, hx⟩ := some_bit _ (and_lt _ _ (and_lt _ _ ha)) hz
    rw [hb_and, hb_and, hb_and] at hx
    simp only [Bool.and_eq_true] at hx
    exact ⟨i, hi, hx.1.2, hx.2.2, hx.1.1, hx.2.1⟩
end Go.Proofs.Ytkgedgihjmhogaa.Co
