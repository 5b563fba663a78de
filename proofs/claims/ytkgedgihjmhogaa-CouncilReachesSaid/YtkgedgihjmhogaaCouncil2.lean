/- The contracts of a council's questions, and of the reference's. -/
import Derived.Test.YtkgedgihjmhogaaCouncil1
import Derived.Test.YtkgedgihjmhogaaCoB
namespace Go.Proofs.Ytkgedgihjmhogaa.Council
open Go.RowKit Mem
set_option linter.unusedSimpArgs false
set_option linter.unusedVariables false

theorem enough_calls (m n : Int) (w : World) : Calls Try.prog 25 #[.int .i64 m, .int .i64 n] w fun e w' => e = .returned (.bool (Co.enoughB m n)) ∧ Mod w w' [] := by
  have k1 := fun w => known_calls m w
  have k2 := fun w => known_calls n w
  have hk1 := Co.kn_lt m
  have hk2 := Co.kn_lt n
  have ha := Co.and_i64 (Co.kn m) (Co.kn n) (by omega) (by omega)
  have s1 := fun w => size_calls (Co.kn m &&& Co.kn n : Nat) w
  rw [Co.kn_nat _ (Co.and_lt _ _ hk1)] at s1
  have s2 := fun w => size_calls m w
  have l1 := Co.cnt_le (Co.kn m &&& Co.kn n)
  have l2 := Co.cnt_le (Co.kn m)
  have hE : Co.enoughB m n = decide (Co.cnt (Co.kn m) / 2 < Co.cnt (Co.kn m &&& Co.kn n)) := rfl
  generalize Co.enoughB m n = E at *
  generalize Co.cnt (Co.kn m &&& Co.kn n) = c1 at *
  generalize Co.cnt (Co.kn m) = c2 at *
  generalize Co.kn m &&& Co.kn n = a at *
  generalize Co.kn m = x at *
  generalize Co.kn n = y at *
  have K1 := Lib.hid k1
  have K2 := Lib.hid k2
  have S1 := Lib.hid s1
  have S2 := Lib.hid s2
  have HE := Lib.hid hE
  clear k1 k2 s1 s2 hE
  go_enter Try.func25, Try.ntmps25
  go_wp2_with fail
  refine (K1.out _).mono ?_
  rintro e w1 ⟨rfl, rfl⟩
  go_wp2_with fail
  refine (K2.out _).mono ?_
  rintro e w1 ⟨rfl, rfl⟩
  go_wp2_with fail
  refine (S1.out _).mono ?_
  rintro e w1 ⟨rfl, hm1⟩
  go_wp2_with fail
  refine (S2.out _).mono ?_
  rintro e w2 ⟨rfl, hm2⟩
  go_wp2_with fail
  go_ret
  exact ⟨ret_bool (by rw [HE.out, Bool.eq_iff_iff, decide_eq_true_iff, decide_eq_true_iff]; omega), hm1.trans0 hm2⟩

theorem near_calls (m n : Int) (w : World) : Calls Try.prog 27 #[.int .i64 m, .int .i64 n] w fun e w' => e = .returned (.bool (Co.nearB m n)) ∧ Mod w w' [] := by
  have k1 := fun w => known_calls m w
  have k2 := fun w => known_calls n w
  have hk1 := Co.kn_lt m
  have hk2 := Co.kn_lt n
  have ha := Co.and_i64 (Co.kn m) (Co.kn n) (by omega) (by omega)
  have hx := Co.xor_i64 (Co.kn m) (Co.kn n) (by omega) (by omega)
  have s1 := fun w => size_calls (Co.kn m ^^^ Co.kn n : Nat) w
  rw [Co.kn_nat _ (Co.xor_lt _ _ hk1 hk2)] at s1
  have l1 := Co.cnt_le (Co.kn m ^^^ Co.kn n)
  have hE : Co.nearB m n = Co.nearK (Co.kn m) (Co.kn n) := rfl
  unfold Co.nearK at hE
  generalize Co.nearB m n = E at *
  generalize Co.cnt (Co.kn m ^^^ Co.kn n) = c1 at *
  generalize Co.kn m ^^^ Co.kn n = z at *
  generalize Co.kn m &&& Co.kn n = a at *
  generalize Co.kn m = x at *
  generalize Co.kn n = y at *
  have K1 := Lib.hid k1
  have K2 := Lib.hid k2
  have S1 := Lib.hid s1
  clear k1 k2 s1
  by_cases h1 : x = 0
  · subst h1
    have HE := Lib.hid hE
    clear hE
    go_enter Try.func27, Try.ntmps27
    go_wp2_with fail
    refine (K1.out _).mono ?_
    rintro e w1 ⟨rfl, rfl⟩
    go_wp2_with fail
    refine (K2.out _).mono ?_
    rintro e w1 ⟨rfl, rfl⟩
    go_wp2_with fail
    go_ret
    exact ⟨ret_bool (by rw [HE.out]; simp), Mod.refl _ _⟩
  have h1' : ((x : Int) != 0) = true := by rw [bne_iff_ne]; omega
  by_cases h2 : y = 0
  · subst h2
    have HE := Lib.hid hE
    clear hE h1
    go_enter Try.func27, Try.ntmps27
    go_wp2_with fail
    refine (K1.out _).mono ?_
    rintro e w1 ⟨rfl, rfl⟩
    go_wp2_with fail
    refine (K2.out _).mono ?_
    rintro e w1 ⟨rfl, rfl⟩
    go_wp2_with fail
    go_ret
    exact ⟨ret_bool (by rw [HE.out]; simp), Mod.refl _ _⟩
  have h2' : ((y : Int) != 0) = true := by rw [bne_iff_ne]; omega
  rw [show (x != 0) = true by simp [h1], show (y != 0) = true by simp [h2], Bool.true_and, Bool.true_and] at hE
  by_cases h3 : a = x ∨ a = y
  · have hor : (a == x || a == y) = true := by simpa using h3
    rw [hor, Bool.true_and] at hE
    have HE := Lib.hid hE
    clear hE hor
    by_cases h4 : a = x
    · have h4' : ((a : Int) == (x : Int)) = true := by rw [beq_iff_eq]; omega
      clear h3 h1 h2 h4
      go_enter Try.func27, Try.ntmps27
      go_wp2_with fail
      refine (K1.out _).mono ?_
      rintro e w1 ⟨rfl, rfl⟩
      go_wp2_with fail
      refine (K2.out _).mono ?_
      rintro e w1 ⟨rfl, rfl⟩
      go_wp2_with fail
      refine (S1.out _).mono ?_
      rintro e w1 ⟨rfl, hm1⟩
      go_wp2_with fail
      go_ret
      exact ⟨ret_bool (by rw [HE.out, Bool.eq_iff_iff, decide_eq_true_iff, decide_eq_true_iff]; omega), hm1⟩
    · have h4' : ((a : Int) == (x : Int)) = false := by rw [beq_eq_false_iff_ne]; omega
      have h5' : ((a : Int) == (y : Int)) = true := by rw [beq_iff_eq]; omega
      clear h3 h1 h2 h4
      go_enter Try.func27, Try.ntmps27
      go_wp2_with fail
      refine (K1.out _).mono ?_
      rintro e w1 ⟨rfl, rfl⟩
      go_wp2_with fail
      refine (K2.out _).mono ?_
      rintro e w1 ⟨rfl, rfl⟩
      go_wp2_with fail
      refine (S1.out _).mono ?_
      rintro e w1 ⟨rfl, hm1⟩
      go_wp2_with fail
      go_ret
      exact ⟨ret_bool (by rw [HE.out, Bool.eq_iff_iff, decide_eq_true_iff, decide_eq_true_iff]; omega), hm1⟩
  · have hor : (a == x || a == y) = false := by simpa using h3
    rw [hor, Bool.false_and] at hE
    have HE := Lib.hid hE
    have h4' : ((a : Int) == (x : Int)) = false := by rw [beq_eq_false_iff_ne]; omega
    have h5' : ((a : Int) == (y : Int)) = false := by rw [beq_eq_false_iff_ne]; omega
    clear h3 h1 h2 hE hor
    go_enter Try.func27, Try.ntmps27
    go_wp2_with fail
    refine (K1.out _).mono ?_
    rintro e w1 ⟨rfl, rfl⟩
    go_wp2_with fail
    refine (K2.out _).mono ?_
    rintro e w1 ⟨rfl, rfl⟩
    go_wp2_with fail
    go_ret
    exact ⟨ret_bool (by rw [HE.out]), Mod.refl _ _⟩

theorem refhas_calls (m n : Int) (w : World) : Calls Try.prog 21 #[.int .i64 m, .int .i64 n] w fun e w' => e = .returned (.bool (Co.hasI m n)) ∧ w = w' := by
  by_cases h1 : m < 0
  · have hH : Co.hasI m n = false := by unfold Co.hasI Co.kn; rw [if_neg (by omega), Co.hb_zero, Bool.and_false]
    rw [hH]; clear hH
    go_enter Try.func21, Try.ntmps21
    go_wp2_with fail
    go_ret
    exact ⟨rfl, rfl⟩
  by_cases h2 : 127 < m
  · have hH : Co.hasI m n = false := by unfold Co.hasI Co.kn; rw [if_neg (by omega), Co.hb_zero, Bool.and_false]
    rw [hH]; clear hH
    go_enter Try.func21, Try.ntmps21
    go_wp2_with fail
    go_ret
    exact ⟨rfl, rfl⟩
  by_cases h3 : n < 0
  · have hH : Co.hasI m n = false := by unfold Co.hasI; rw [show decide (0 ≤ n ∧ n < 7) = false by simp; omega, Bool.false_and]
    rw [hH]; clear hH
    go_enter Try.func21, Try.ntmps21
    go_wp2_with fail
    go_ret
    exact ⟨rfl, rfl⟩
  by_cases h4 : 6 < n
  · have hH : Co.hasI m n = false := by unfold Co.hasI; rw [show decide (0 ≤ n ∧ n < 7) = false by simp; omega, Bool.false_and]
    rw [hH]; clear hH
    go_enter Try.func21, Try.ntmps21
    go_wp2_with fail
    go_ret
    exact ⟨rfl, rfl⟩
  obtain ⟨k, rfl⟩ := Int.eq_ofNat_of_zero_le (by omega : 0 ≤ m)
  obtain ⟨i, rfl⟩ := Int.eq_ofNat_of_zero_le (by omega : 0 ≤ n)
  have hi : (i : Int) ≤ 6 := by omega
  have hk : (k : Int) ≤ 127 := by omega
  have hH : Co.hasI k i = (k / 2 ^ i % 2 == 1) := by
    unfold Co.hasI Co.hb
    rw [show decide (0 ≤ (i : Int) ∧ (i : Int) < 7) = true by simp; omega, Bool.true_and, Co.kn_nat k (by omega), Int.toNat_natCast]
  rw [hH]
  obtain ⟨K, hK⟩ : ∃ K : Nat → Nat, ∀ j, K j = k / 2 ^ j := ⟨fun j => k / 2 ^ j, fun _ => rfl⟩
  have hK0 : K 0 = k := by rw [hK]; simp
  have hKs : ∀ j, K (j + 1) = K j / 2 := fun j => by rw [hK, hK, Nat.pow_succ, Nat.div_div_eq_div_mul]
  have hKb : ∀ j, K j ≤ 127 := fun j => by rw [hK]; exact Nat.le_trans (Nat.div_le_self _ _) (by omega)
  rw [← hK i]
  have HK0 := Lib.hid hK0
  have HKS := Lib.hid hKs
  have HKB := Lib.hid hKb
  clear hH hK hK0 hKs hKb h1 h2 h3 h4
  go_enter Try.func21, Try.ntmps21
  go_wp2_with fail
  go_loop [0, 5] (fun vm vj => ∃ j : Nat, j ≤ i ∧ vj = .int .i64 (j : Int) ∧ vm = .int .i64 (K j)) (fun _ vj => i + 1 - (intOf vj).toNat)
  case atStart => exact ⟨0, by omega, rfl, by rw [HK0.out]⟩
  case round =>
    obtain ⟨j, hj, rfl, rfl⟩ := hrel
    have hb := HKB.out j
    have HS := Lib.hid (HKS.out j)
    by_cases hlt : j < i
    · have hlt' : (j : Int) < i := by omega
      go_wp2
      go_round
      case rel => exact ⟨j + 1, by omega, by go_num, by rw [HS.out]; go_num⟩
      case measure => simp [intOf]; omega
    · obtain rfl : j = i := by omega
      go_wp2
      go_ret
      exact ⟨ret_bool (by rw [Bool.eq_iff_iff, beq_iff_eq, beq_iff_eq]; omega), rfl⟩
end Go.Proofs.Ytkgedgihjmhogaa.Council
