/- The middle of a sorted list: plain facts. -/
import Derived.Test.YtkgedgihjmhogaaCouncil4
namespace Go.Proofs.Ytkgedgihjmhogaa.Council
set_option linter.unusedSimpArgs false
set_option linter.unusedVariables false

theorem reach_facts (L : List Int) (h : 0 < L.length) :
    reachL L ∈ L ∧ L.length / 2 < L.countP (fun y => decide (reachL L ≤ y)) ∧ L.countP (fun y => decide (reachL L < y)) ≤ L.length / 2 := by
  have hp : (L.mergeSort fun x y => decide (x ≤ y)).Perm L := List.mergeSort_perm L _
  have hs : (L.mergeSort fun x y => decide (x ≤ y)).Pairwise (fun x y => decide (x ≤ y) = true) :=
    List.pairwise_mergeSort (fun a b c h1 h2 => by simp at *; omega) (fun a b => by simp; omega) L
  have hl : (L.mergeSort fun x y => decide (x ≤ y)).length = L.length := hp.length_eq
  have hr : reachL L = (L.mergeSort fun x y => decide (x ≤ y)).getD ((L.length - 1) / 2) 0 := by unfold reachL; rw [if_neg (by omega)]
  generalize (L.mergeSort fun x y => decide (x ≤ y)) = S at *
  have hq : (L.length - 1) / 2 < S.length := by omega
  have hx : reachL L = S[(L.length - 1) / 2] := by rw [hr, List.getD_eq_getElem?_getD, List.getElem?_eq_getElem hq]; rfl
  have hlen := hl
  generalize hqq : (L.length - 1) / 2 = q at *
  have hge : ∀ y ∈ S.drop q, S[q] ≤ y := by
    intro y hy
    obtain ⟨i, hi, rfl⟩ := List.getElem_of_mem hy
    rw [List.getElem_drop]
    rcases Nat.eq_zero_or_pos i with rfl | hi0
    · simp
    · have := List.pairwise_iff_getElem.1 hs q (q + i) hq (by simp at hi; omega) (by omega)
      simpa using this
  have hle : ∀ y ∈ S.take (q + 1), y ≤ S[q] := by
    intro y hy
    obtain ⟨i, hi, rfl⟩ := List.getElem_of_mem hy
    rw [List.getElem_take]
    have hi' : i < q + 1 := by simp at hi; omega
    rcases Nat.lt_or_ge i q with h1 | h1
    · have := List.pairwise_iff_getElem.1 hs i q (by omega) hq h1
      simpa using this
    · have : i = q := by omega
      subst this; exact Int.le_refl _
  have hmem : S[q] ∈ L := hp.mem_iff.1 (List.getElem_mem hq)
  rw [hx]
  generalize S[q] = x at *
  have hcp : ∀ f : Int → Bool, L.countP f = S.countP f := fun f => (hp.countP_eq f).symm
  refine ⟨hmem, ?_, ?_⟩
  · rw [hcp]
    have h1 : S.countP (fun y => decide (x ≤ y)) = (S.take q).countP (fun y => decide (x ≤ y)) + (S.drop q).countP (fun y => decide (x ≤ y)) := by
      conv => lhs; rw [← List.take_append_drop q S]
      rw [List.countP_append]
    have h2 : (S.drop q).countP (fun y => decide (x ≤ y)) = (S.drop q).length := List.countP_eq_length.2 (fun y hy => by simpa using hge y hy)
    rw [h1, h2, List.length_drop]
    omega
  · rw [hcp]
    have h1 : S.countP (fun y => decide (x < y)) = (S.take (q + 1)).countP (fun y => decide (x < y)) + (S.drop (q + 1)).countP (fun y => decide (x < y)) := by
      conv => lhs; rw [← List.take_append_drop (q + 1) S]
      rw [List.countP_append]
    have h2 : (S.take (q + 1)).countP (fun y => decide (x < y)) = 0 := List.countP_eq_zero.2 (fun y hy => by have := hle y hy; simp; omega)
    have h3 : (S.drop (q + 1)).countP (fun y => decide (x < y)) ≤ (S.drop (q + 1)).length := List.countP_le_length
    rw [List.length_drop] at h3
    omega
end Go.Proofs.Ytkgedgihjmhogaa.Council
