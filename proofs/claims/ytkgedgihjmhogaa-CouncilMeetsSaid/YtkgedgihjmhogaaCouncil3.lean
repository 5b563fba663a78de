/- The contracts of the reference's council. -/
import Derived.Test.YtkgedgihjmhogaaCouncil2
namespace Go.Proofs.Ytkgedgihjmhogaa.Council
open Go.RowKit Mem
set_option linter.unusedSimpArgs false
set_option linter.unusedVariables false

theorem hasI_in (m : Int) (j : Nat) (hj : j < 7) : Co.hasI m (j : Int) = Co.hb (Co.kn m) j := by
  unfold Co.hasI
  rw [show decide (0 ≤ (j : Int) ∧ (j : Int) < 7) = true by simp; omega, Bool.true_and, Int.toNat_natCast]

theorem refsize_calls (m : Int) (w : World) : Calls Try.prog 20 #[.int .i64 m] w fun e w' => e = .returned (.int .i64 (Co.cnt (Co.kn m))) ∧ w = w' := by
  have hc := fun n w => refhas_calls m n w
  have hh := hasI_in m
  have h7 := Co.cntTo_all (Co.kn m)
  generalize Co.kn m = k at *
  rw [← h7]
  have HC := Lib.hid hc
  have HH := Lib.hid hh
  clear hc hh h7
  go_enter Try.func20, Try.ntmps20
  go_wp2_with fail
  go_loop [3, 4] (fun vn vj => ∃ j : Nat, j ≤ 7 ∧ vj = .int .i64 (j : Int) ∧ vn = .int .i64 (Co.cntTo k j : Nat)) (fun _ vj => 8 - (intOf vj).toNat)
  case atStart => exact ⟨0, by omega, rfl, rfl⟩
  case round =>
    obtain ⟨j, hj, rfl, rfl⟩ := hrel
    by_cases hlt : j < 7
    · have hlt' : (j : Int) < 7 := by omega
      have hl := Co.cntTo_le k j
      have hs := Co.cntTo_step k j
      have HE := Lib.hid (HH.out j hlt)
      generalize Co.cntTo k j = c at *
      cases hb : Co.hb k j
      all_goals
        rw [hb] at hs HE
        have HS := Lib.hid hs
        clear hs hb
        go_wp2_with (go_at_call 21; refine (HC.out _ _).mono ?_; rintro e w' ⟨rfl, rfl⟩; rw [HE.out])
        go_round
        case rel => exact ⟨j + 1, by omega, by go_num, by rw [HS.out]; go_num⟩
        case measure => simp [intOf]; omega
    · obtain rfl : j = 7 := by omega
      go_wp2
      go_ret
      exact ⟨rfl, rfl⟩

theorem refenough_calls (m n : Int) (w : World) : Calls Try.prog 26 #[.int .i64 m, .int .i64 n] w fun e w' => e = .returned (.bool (Co.enoughB m n)) ∧ w = w' := by
  have hc := fun n w => refhas_calls m n w
  have hc2 := fun i w => refhas_calls n i w
  have hh := hasI_in m
  have hh2 := hasI_in n
  have sc := fun w => refsize_calls m w
  have hand := Co.hb_and (Co.kn m) (Co.kn n)
  have h7 := Co.cntTo_all (Co.kn m &&& Co.kn n)
  have l2 := Co.cnt_le (Co.kn m)
  have hE : Co.enoughB m n = decide (Co.cnt (Co.kn m) / 2 < Co.cnt (Co.kn m &&& Co.kn n)) := rfl
  generalize Co.enoughB m n = E at *
  rw [← h7] at hE
  generalize Co.cnt (Co.kn m) = c2 at *
  generalize Co.kn m &&& Co.kn n = a at *
  generalize Co.kn m = x at *
  generalize Co.kn n = y at *
  have HC := Lib.hid hc
  have HC2 := Lib.hid hc2
  have HH := Lib.hid hh
  have HH2 := Lib.hid hh2
  have SC := Lib.hid sc
  have HAND := Lib.hid hand
  have HE := Lib.hid hE
  clear hc hc2 hh hh2 sc hand h7 hE
  go_enter Try.func26, Try.ntmps26
  go_wp2_with fail
  go_loop [5, 6] (fun vn vj => ∃ j : Nat, j ≤ 7 ∧ vj = .int .i64 (j : Int) ∧ vn = .int .i64 (Co.cntTo a j : Nat)) (fun _ vj => 8 - (intOf vj).toNat)
  case atStart => exact ⟨0, by omega, rfl, rfl⟩
  case round =>
    obtain ⟨j, hj, rfl, rfl⟩ := hrel
    have hl := Co.cntTo_le a j
    by_cases hlt : j < 7
    · have hlt' : (j : Int) < 7 := by omega
      have hs := Co.cntTo_step a j
      rw [HAND.out] at hs
      have H1 := Lib.hid (HH.out j hlt)
      have H2 := Lib.hid (HH2.out j hlt)
      generalize Co.cntTo a j = c at *
      cases hb : Co.hb x j
      · rw [hb] at hs H1
        have HS := Lib.hid hs
        clear hs hb
        go_wp2_with fail
        refine (HC.out _ _).mono ?_
        rintro e w1 ⟨rfl, rfl⟩
        rw [H1.out]
        go_wp2_with fail
        go_round
        case rel => exact ⟨j + 1, by omega, by go_num, by rw [HS.out]; simp⟩
        case measure => simp [intOf]; omega
      · cases hb2 : Co.hb y j
        all_goals
          rw [hb, hb2] at hs
          rw [hb] at H1
          rw [hb2] at H2
          have HS := Lib.hid hs
          clear hs hb hb2
          go_wp2_with fail
          refine (HC.out _ _).mono ?_
          rintro e w1 ⟨rfl, rfl⟩
          rw [H1.out]
          go_wp2_with fail
          refine (HC2.out _ _).mono ?_
          rintro e w1 ⟨rfl, rfl⟩
          rw [H2.out]
          go_wp2_with fail
          go_round
          case rel => exact ⟨j + 1, by omega, by go_num, by rw [HS.out]; simp⟩
          case measure => simp [intOf]; omega
    · obtain rfl : j = 7 := by omega
      generalize Co.cntTo a 7 = c at *
      go_wp2_with fail
      refine (SC.out _).mono ?_
      rintro e w1 ⟨rfl, rfl⟩
      go_wp2_with fail
      go_ret
      exact ⟨ret_bool (by rw [HE.out, Bool.eq_iff_iff, decide_eq_true_iff, decide_eq_true_iff]; omega), rfl⟩

theorem refnear_calls (m n : Int) (w : World) : Calls Try.prog 28 #[.int .i64 m, .int .i64 n] w fun e w' => e = .returned (.bool (Co.nearB m n)) ∧ w = w' := by
  have hc := fun n w => refhas_calls m n w
  have hc2 := fun i w => refhas_calls n i w
  have hh := hasI_in m
  have hh2 := hasI_in n
  have s1 := fun w => refsize_calls m w
  have s2 := fun w => refsize_calls n w
  have l1 := Co.cnt_le (Co.kn m)
  have l2 := Co.cnt_le (Co.kn n)
  have hE : Co.nearB m n = (decide (0 < Co.cnt (Co.kn m)) && decide (0 < Co.cnt (Co.kn n)) && decide (Co.moreTo (Co.kn m) (Co.kn n) 7 + Co.moreTo (Co.kn n) (Co.kn m) 7 ≤ 1)) := (Co.near_same _ (Co.kn_lt m) _ (Co.kn_lt n)).symm
  generalize Co.nearB m n = E at *
  generalize Co.cnt (Co.kn m) = c1 at *
  generalize Co.cnt (Co.kn n) = c2 at *
  generalize Co.kn m = x at *
  generalize Co.kn n = y at *
  have HC := Lib.hid hc
  have HC2 := Lib.hid hc2
  have HH := Lib.hid hh
  have HH2 := Lib.hid hh2
  have S1 := Lib.hid s1
  have S2 := Lib.hid s2
  have HE := Lib.hid hE
  clear hc hc2 hh hh2 s1 s2 hE
  go_enter Try.func28, Try.ntmps28
  go_wp2_with fail
  go_loop [5, 6, 7] (fun va vb vj => ∃ j : Nat, j ≤ 7 ∧ vj = .int .i64 (j : Int) ∧ va = .int .i64 (Co.moreTo x y j : Nat) ∧ vb = .int .i64 (Co.moreTo y x j : Nat)) (fun _ _ vj => 8 - (intOf vj).toNat)
  case atStart => exact ⟨0, by omega, rfl, rfl, rfl⟩
  case round =>
    obtain ⟨j, hj, rfl, rfl, rfl⟩ := hrel
    have hla := Co.moreTo_le x y j
    have hlb := Co.moreTo_le y x j
    by_cases hlt : j < 7
    · have hlt' : (j : Int) < 7 := by omega
      have hs := Co.moreTo_step x y j
      have ht := Co.moreTo_step y x j
      have H1 := Lib.hid (HH.out j hlt)
      have H2 := Lib.hid (HH2.out j hlt)
      generalize Co.moreTo x y j = ca at *
      generalize Co.moreTo y x j = cb at *
      cases hb : Co.hb x j
      · cases hb2 : Co.hb y j
        · rw [hb, hb2] at hs ht
          rw [hb] at H1
          rw [hb2] at H2
          have HS := Lib.hid hs
          have HT := Lib.hid ht
          clear hs ht hb hb2
          go_wp2_with fail
          refine (HC.out _ _).mono ?_
          rintro e w1 ⟨rfl, rfl⟩
          rw [H1.out]
          go_wp2_with fail
          refine (HC2.out _ _).mono ?_
          rintro e w1 ⟨rfl, rfl⟩
          rw [H2.out]
          go_wp2_with fail
          go_round
          case rel => exact ⟨j + 1, by omega, by go_num, by rw [HS.out]; simp, by rw [HT.out]; simp⟩
          case measure => simp [intOf]; omega
        · rw [hb, hb2] at hs ht
          rw [hb] at H1
          rw [hb2] at H2
          have HS := Lib.hid hs
          have HT := Lib.hid ht
          clear hs ht hb hb2
          go_wp2_with fail
          refine (HC.out _ _).mono ?_
          rintro e w1 ⟨rfl, rfl⟩
          rw [H1.out]
          go_wp2_with fail
          refine (HC2.out _ _).mono ?_
          rintro e w1 ⟨rfl, rfl⟩
          rw [H2.out]
          go_wp2_with fail
          refine (HC.out _ _).mono ?_
          rintro e w1 ⟨rfl, rfl⟩
          rw [H1.out]
          go_wp2_with fail
          go_round
          case rel => exact ⟨j + 1, by omega, by go_num, by rw [HS.out]; simp, by rw [HT.out]; simp⟩
          case measure => simp [intOf]; omega
      · cases hb2 : Co.hb y j
        · rw [hb, hb2] at hs ht
          rw [hb] at H1
          rw [hb2] at H2
          have HS := Lib.hid hs
          have HT := Lib.hid ht
          clear hs ht hb hb2
          go_wp2_with fail
          refine (HC.out _ _).mono ?_
          rintro e w1 ⟨rfl, rfl⟩
          rw [H1.out]
          go_wp2_with fail
          refine (HC2.out _ _).mono ?_
          rintro e w1 ⟨rfl, rfl⟩
          rw [H2.out]
          go_wp2_with fail
          refine (HC2.out _ _).mono ?_
          rintro e w1 ⟨rfl, rfl⟩
          rw [H2.out]
          go_wp2_with fail
          go_round
          case rel => exact ⟨j + 1, by omega, by go_num, by rw [HS.out]; simp, by rw [HT.out]; simp⟩
          case measure => simp [intOf]; omega
        · rw [hb, hb2] at hs ht
          rw [hb] at H1
          rw [hb2] at H2
          have HS := Lib.hid hs
          have HT := Lib.hid ht
          clear hs ht hb hb2
          go_wp2_with fail
          refine (HC.out _ _).mono ?_
          rintro e w1 ⟨rfl, rfl⟩
          rw [H1.out]
          go_wp2_with fail
          refine (HC2.out _ _).mono ?_
          rintro e w1 ⟨rfl, rfl⟩
          rw [H2.out]
          go_wp2_with fail
          refine (HC2.out _ _).mono ?_
          rintro e w1 ⟨rfl, rfl⟩
          rw [H2.out]
          go_wp2_with fail
          refine (HC.out _ _).mono ?_
          rintro e w1 ⟨rfl, rfl⟩
          rw [H1.out]
          go_wp2_with fail
          go_round
          case rel => exact ⟨j + 1, by omega, by go_num, by rw [HS.out]; simp, by rw [HT.out]; simp⟩
          case measure => simp [intOf]; omega
    · obtain rfl : j = 7 := by omega
      generalize Co.moreTo x y 7 = ca at *
      generalize Co.moreTo y x 7 = cb at *
      by_cases z1 : 0 < c1
      · have z1' : 0 < (c1 : Int) := by omega
        by_cases z2 : 0 < c2
        · have z2' : 0 < (c2 : Int) := by omega
          have HE2 : Hid (E = decide (ca + cb ≤ 1)) := Lib.hid (by rw [HE.out]; simp [z1, z2])
          go_wp2_with fail
          refine (S1.out _).mono ?_
          rintro e w1 ⟨rfl, rfl⟩
          go_wp2_with fail
          refine (S2.out _).mono ?_
          rintro e w1 ⟨rfl, rfl⟩
          go_wp2_with fail
          go_ret
          exact ⟨ret_bool (by rw [HE2.out, Bool.eq_iff_iff, decide_eq_true_iff, decide_eq_true_iff]; omega), rfl⟩
        · have z2' : c2 = 0 := by omega
          subst z2'
          go_wp2_with fail
          refine (S1.out _).mono ?_
          rintro e w1 ⟨rfl, rfl⟩
          go_wp2_with fail
          refine (S2.out _).mono ?_
          rintro e w1 ⟨rfl, rfl⟩
          go_wp2_with fail
          go_ret
          exact ⟨ret_bool (by rw [HE.out]; simp), rfl⟩
      · have z1' : c1 = 0 := by omega
        subst z1'
        go_wp2_with fail
        refine (S1.out _).mono ?_
        rintro e w1 ⟨rfl, rfl⟩
        go_wp2_with fail
        go_ret
        exact ⟨ret_bool (by rw [HE.out]; simp), rfl⟩
end Go.Proofs.Ytkgedgihjmhogaa.Council
