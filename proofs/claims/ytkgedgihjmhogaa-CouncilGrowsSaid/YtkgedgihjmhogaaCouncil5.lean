/- The contract of chapter 15's example. -/
import Derived.Test.YtkgedgihjmhogaaCouncil4
namespace Go.Proofs.Ytkgedgihjmhogaa.Council
open Go.RowKit Mem
set_option linter.unusedSimpArgs false
set_option linter.unusedVariables false

theorem reach_ex : reachL ((Co.nodesL (Co.kn 7)).map fun i => [5, 1, 3, 0, 0, 0, 0].getD i 0) = 3 := by
  rw [show (Co.nodesL (Co.kn 7)).map (fun i => ([5, 1, 3, 0, 0, 0, 0] : List Int).getD i 0) = [5, 1, 3] by decide +kernel]
  simp [reachL, List.mergeSort, List.merge]

theorem awake_calls (w : World) : Calls Try.prog 22 #[] w fun e w' => e = .returned (.bool true) ∧ Mod w w' [] := by
  have n1 := fun w => enough_calls 7 3 w
  rw [show Co.enoughB 7 3 = true by decide +kernel] at n1
  have n2 := fun w => enough_calls 7 4 w
  rw [show Co.enoughB 7 4 = false by decide +kernel] at n2
  have n3 := fun w => near_calls 3 7 w
  rw [show Co.nearB 3 7 = true by decide +kernel] at n3
  have n4 := fun w => near_calls 3 5 w
  rw [show Co.nearB 3 5 = false by decide +kernel] at n4
  have n5 := fun w => reached_calls 7 (fun i => [5, 1, 3, 0, 0, 0, 0].getD i 0) w
  rw [reach_ex] at n5
  have n6 := fun w => nodes_calls 6 w
  rw [show Co.nodesL (Co.kn 6) = [1, 2] by decide +kernel] at n6
  have N1 := Lib.hid n1
  have N2 := Lib.hid n2
  have N3 := Lib.hid n3
  have N4 := Lib.hid n4
  have N5 := Lib.hid n5
  have N6 := Lib.hid n6
  clear n1 n2 n3 n4 n5 n6
  go_enter Try.func22, Try.ntmps22
  go_wp2_with fail
  refine (N1.out _).mono ?_
  rintro e w1 ⟨rfl, hm1⟩
  go_wp2_with fail
  refine (N2.out _).mono ?_
  rintro e w2 ⟨rfl, hm2⟩
  go_wp2_with fail
  refine (N3.out _).mono ?_
  rintro e w3 ⟨rfl, hm3⟩
  go_wp2_with fail
  refine (N4.out _).mono ?_
  rintro e w4 ⟨rfl, hm4⟩
  go_wp2_with fail
  refine (N5.out _).mono ?_
  rintro e w5 ⟨rfl, hm5⟩
  go_wp2_with fail
  refine (N6.out _).mono ?_
  rintro e w6 ⟨v, rfl, hm6, hown⟩
  have HM := Lib.hid (((((hm1.trans0 hm2).trans0 hm3).trans0 hm4).trans0 hm5).trans0 hm6)
  clear hm1 hm2 hm3 hm4 hm5 hm6
  rcases own_cell hown with ⟨rfl, h1, h2⟩ | ⟨g, cap, rfl, hg, hcap, hmx, hlen, hcell⟩
  · simp at h1
  · clear hcell hown hlen
    go_wp2_with fail
    go_ret
    exact ⟨rfl, HM.out⟩
end Go.Proofs.Ytkgedgihjmhogaa.Council
