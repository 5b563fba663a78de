/- The law CouncilGrows. -/
import Derived.Test.YtkgedgihjmhogaaCouncil5
import Derived.Test.YtkgedgihjmhogaaCoC
namespace Go.Proofs.Ytkgedgihjmhogaa.Co
theorem and_or_and (m w k : Nat) : (m &&& (w ||| k)) &&& w = m &&& w := by
  apply Nat.eq_of_testBit_eq
  intro i
  simp only [Nat.testBit_and, Nat.testBit_or]
  cases m.testBit i <;> cases w.testBit i <;> cases k.testBit i <;> rfl
theorem and_and_or (m w k : Nat) : (m &&& (w ||| k)) &&& (m &&& w) = m &&& w := by
  apply Nat.eq_of_testBit_eq
  intro i
  simp only [Nat.testBit_and, Nat.testBit_or]
  cases m.testBit i <;> cases w.testBit i <;> cases k.testBit i <;> rfl
def enK (m w : Nat) : Bool := decide (cnt m / 2 < cnt (m &&& w))
theorem enoughB_nat (m w : Nat) (hm : m < 128) (hw : w < 128) : enoughB m w = enK m w := by
  unfold enoughB enK
  rw [kn_nat m hm, kn_nat w hw]
theorem grows1 (m : Nat) (hm : m < 128) (h : m ≠ 0) : enK m m = true := by
  unfold enK
  have := (cnt_zero m hm)
  rw [Nat.and_self, decide_eq_true_iff]; omega
theorem grows2 (w : Nat) : enK 0 w = false := by
  unfold enK
  rw [Nat.zero_and, decide_eq_false_iff_not]
  have : cnt 0 = 0 := by decide +kernel
  omega
theorem grows3 (m w k : Nat) (hm : m < 128) (hw : w < 128) (hk : k < 128) (h : enK m w = true) : enK m (w ||| k) = true ∧ enK (m &&& (w ||| k)) w = true := by
  unfold enK at *
  rw [decide_eq_true_iff] at *
  rw [decide_eq_true_iff]
  have hl := and_lt m (w ||| k) hm
  have h1 := cnt_sub (m &&& (w ||| k)) hl (m &&& w) (and_lt _ _ hm)
  rw [and_and_or] at h1
  have h2 := cnt_sub m hm (w ||| k) (or_lt _ _ hw hk)
  rw [and_or_and]
  omega
theorem grows4 (m w : Nat) (hm : m < 128) (hw : w < 128) (h : enK m w = true) : enK m (127 ^^^ w) = false := by
  unfold enK at *
  rw [decide_eq_true_iff] at h
  rw [decide_eq_false_iff_not]
  have := cnt_split m hm w hw
  omega
end Go.Proofs.Ytkgedgihjmhogaa.Co
namespace Go.Proofs.Ytkgedgihjmhogaa.Council
open Go.RowKit Mem
set_option linter.unusedSimpArgs false
set_option linter.unusedVariables false

theorem en_calls (m n : Nat) (hm : m < 128) (hn : n < 128) (w : World) : Calls Try.prog 25 #[.int .i64 m, .int .i64 n] w fun e w' => e = .returned (.bool (Co.enK m n)) ∧ Mod w w' [] := by
  rw [← Co.enoughB_nat m n hm hn]; exact enough_calls m n w

theorem grows_in (m n k : Nat) (hm : m < 128) (hn : n < 128) (hk : k < 128) (w : World) :
    Calls Try.prog 10 #[.int .i64 m, .int .i64 n, .int .i64 k] w fun e w' => e = .returned (.bool true) ∧ Below w.heap.size w w' := by
  have hor := Co.or_i64 n k hn hk
  have hol := Co.or_lt n k hn hk
  have hand := Co.and_i64 m (n ||| k) (by omega) (by omega)
  have hal := Co.and_lt m (n ||| k) hm
  have hno := Co.andNot_i64 n hn
  have hnl := Co.xor_lt 127 n (by decide) hn
  have c1 := fun w => en_calls m m hm hm w
  have c2 := fun w => en_calls m n hm hn w
  have c3 := fun w => en_calls m (n ||| k) hm hol w
  have c4 := fun w => en_calls (m &&& (n ||| k)) n hal hn w
  have c5 := fun w => en_calls m (127 ^^^ n) hm hnl w
  have g1 := Co.grows1 m hm
  have g2 := Co.grows2 n
  have g3 := Co.grows3 m n k hm hn hk
  have g4 := Co.grows4 m n hm hn
  generalize Co.enK m (127 ^^^ n) = b5 at *
  generalize Co.enK (m &&& (n ||| k)) n = b4 at *
  generalize Co.enK m (n ||| k) = b3 at *
  generalize m &&& (n ||| k) = x1 at *
  generalize n ||| k = x2 at *
  generalize 127 ^^^ n = x3 at *
  have C1 := Lib.hid c1
  have C2 := Lib.hid c2
  have C3 := Lib.hid c3
  have C4 := Lib.hid c4
  have C5 := Lib.hid c5
  have AW := Lib.hid awake_calls
  have l1 : (m : Int) ≤ 127 := by omega
  have l2 : (n : Int) ≤ 127 := by omega
  have l3 : (k : Int) ≤ 127 := by omega
  have G2 := Lib.hid g2
  clear c1 c2 c3 c4 c5 g2
  by_cases hm0 : m = 0
  · subst hm0
    have e2 := G2.out
    rw [e2] at C2
    clear g1 g3 g4 e2
    go_enter Try.func10, Try.ntmps10
    go_wp2_with fail
    refine (C2.out _).mono ?_
    rintro e w1 ⟨rfl, hm1⟩
    go_wp2_with fail
    refine (C2.out _).mono ?_
    rintro e w2 ⟨rfl, hm2⟩
    go_wp2_with fail
    refine (AW.out _).mono ?_
    rintro e w3 ⟨rfl, hm3⟩
    go_wp2_with fail
    refine (C2.out _).mono ?_
    rintro e w4 ⟨rfl, hm4⟩
    go_wp2_with fail
    go_ret
    exact ⟨rfl, (((hm1.trans0 hm2).trans0 hm3).trans0 hm4).below0⟩
  · have e1 := g1 hm0
    rw [e1] at C1
    have hm0' : ((m : Int) != 0) = true := by rw [bne_iff_ne]; omega
    have hm0'' : ((m : Int) == 0) = false := by rw [beq_eq_false_iff_ne]; omega
    clear g1 e1 hm0
    cases h2 : Co.enK m n
    · rw [h2] at C2
      clear h2 g3 g4
      go_enter Try.func10, Try.ntmps10
      go_wp2_with fail
      refine (C1.out _).mono ?_
      rintro e w1 ⟨rfl, hm1⟩
      go_wp2_with fail
      refine (C2.out _).mono ?_
      rintro e w2 ⟨rfl, hm2⟩
      go_wp2_with fail
      refine (AW.out _).mono ?_
      rintro e w3 ⟨rfl, hm3⟩
      go_wp2_with fail
      refine (C2.out _).mono ?_
      rintro e w4 ⟨rfl, hm4⟩
      go_wp2_with fail
      go_ret
      exact ⟨rfl, (((hm1.trans0 hm2).trans0 hm3).trans0 hm4).below0⟩
    · obtain ⟨e3, e4⟩ := g3 h2
      have e5 := g4 h2
      subst e3 e4 e5
      rw [h2] at C2
      clear h2 g3 g4
      go_enter Try.func10, Try.ntmps10
      go_wp2_with fail
      refine (C1.out _).mono ?_
      rintro e w1 ⟨rfl, hm1⟩
      go_wp2_with fail
      refine (C2.out _).mono ?_
      rintro e w2 ⟨rfl, hm2⟩
      go_wp2_with fail
      refine (C3.out _).mono ?_
      rintro e w3 ⟨rfl, hm3⟩
      go_wp2_with fail
      refine (C4.out _).mono ?_
      rintro e w4 ⟨rfl, hm4⟩
      go_wp2_with fail
      refine (AW.out _).mono ?_
      rintro e w5 ⟨rfl, hm5⟩
      go_wp2_with fail
      refine (C2.out _).mono ?_
      rintro e w6 ⟨rfl, hm6⟩
      go_wp2_with fail
      refine (C5.out _).mono ?_
      rintro e w7 ⟨rfl, hm7⟩
      go_wp2_with fail
      go_ret
      exact ⟨rfl, ((((((hm1.trans0 hm2).trans0 hm3).trans0 hm4).trans0 hm5).trans0 hm6).trans0 hm7).below0⟩

theorem grows_out (m n k : Int) (h : m < 0 ∨ 127 < m ∨ n < 0 ∨ 127 < n ∨ k < 0 ∨ 127 < k) (w : World) :
    Calls Try.prog 10 #[.int .i64 m, .int .i64 n, .int .i64 k] w fun e w' => e = .returned (.bool true) ∧ Below w.heap.size w w' := by
  have sc := fun w => size_calls m w
  have hl := Co.cnt_le (Co.kn m)
  have hz := Co.cnt_zero (Co.kn m) (Co.kn_lt m)
  have hk : (m < 0 ∨ 127 < m) → Co.kn m = 0 := fun h => by unfold Co.kn; rw [if_neg (by omega)]
  have hk2 : ¬ (m < 0 ∨ 127 < m) → (Co.kn m : Int) = m := fun h => by unfold Co.kn; rw [if_pos (by omega)]; omega
  generalize Co.cnt (Co.kn m) = c at *
  generalize Co.kn m = q at *
  have SC := Lib.hid sc
  have AW := Lib.hid awake_calls
  clear sc
  by_cases m1 : m < 0
  · have hc : c = 0 := hz.2 (hk (.inl m1))
    subst hc
    have hm0'' : (m == 0) = false := by rw [beq_eq_false_iff_ne]; omega
    clear h hl hz hk hk2
    go_enter Try.func10, Try.ntmps10
    go_wp2_with fail
    refine (AW.out _).mono ?_
    rintro e w1 ⟨rfl, hm1⟩
    go_wp2_with fail
    refine (SC.out _).mono ?_
    rintro e w2 ⟨rfl, hm2⟩
    go_wp2_with fail
    go_ret
    exact ⟨rfl, (hm1.trans0 hm2).below0⟩
  by_cases m2 : 127 < m
  · have hc : c = 0 := hz.2 (hk (.inr m2))
    subst hc
    have hm0'' : (m == 0) = false := by rw [beq_eq_false_iff_ne]; omega
    clear h hl hz hk hk2
    go_enter Try.func10, Try.ntmps10
    go_wp2_with fail
    refine (AW.out _).mono ?_
    rintro e w1 ⟨rfl, hm1⟩
    go_wp2_with fail
    refine (SC.out _).mono ?_
    rintro e w2 ⟨rfl, hm2⟩
    go_wp2_with fail
    go_ret
    exact ⟨rfl, (hm1.trans0 hm2).below0⟩
  have hq := hk2 (by omega)
  by_cases m0 : m = 0
  · have hc : c = 0 := hz.2 (by omega)
    subst hc m0
    clear hl hz hk hk2 hq
    have h4 : n < 0 ∨ 127 < n ∧ 0 ≤ n ∨ (0 ≤ n ∧ n ≤ 127) ∧ k < 0 ∨ (0 ≤ n ∧ n ≤ 127) ∧ 0 ≤ k ∧ 127 < k := by omega
    clear h
    rcases h4 with h | ⟨h, h'⟩ | ⟨⟨h, h'⟩, h''⟩ | ⟨⟨h, h'⟩, h'', h'''⟩
    all_goals
      go_enter Try.func10, Try.ntmps10
      go_wp2_with fail
      refine (AW.out _).mono ?_
      rintro e w1 ⟨rfl, hm1⟩
      go_wp2_with fail
      refine (SC.out _).mono ?_
      rintro e w2 ⟨rfl, hm2⟩
      go_wp2_with fail
      go_ret
      exact ⟨rfl, (hm1.trans0 hm2).below0⟩
  · have hc : 0 < (c : Int) := by omega
    have h4 : n < 0 ∨ 127 < n ∧ 0 ≤ n ∨ (0 ≤ n ∧ n ≤ 127) ∧ k < 0 ∨ (0 ≤ n ∧ n ≤ 127) ∧ 0 ≤ k ∧ 127 < k := by omega
    clear hl hz hk hk2 hq m0 h
    rcases h4 with h | ⟨h, h'⟩ | ⟨⟨h, h'⟩, h''⟩ | ⟨⟨h, h'⟩, h'', h'''⟩
    all_goals
      go_enter Try.func10, Try.ntmps10
      go_wp2_with fail
      refine (AW.out _).mono ?_
      rintro e w1 ⟨rfl, hm1⟩
      go_wp2_with fail
      refine (SC.out _).mono ?_
      rintro e w2 ⟨rfl, hm2⟩
      go_wp2_with fail
      go_ret
      exact ⟨ret_bool (by simp; omega), (hm1.trans0 hm2).below0⟩

theorem councilGrows_calls (w : World) (m : Int) (hm : (Lit.int .i64 m).wf = true) (n : Int) (hn : (Lit.int .i64 n).wf = true) (k : Int) (hk : (Lit.int .i64 k).wf = true) :
    Calls Try.prog 10 #[.int .i64 m, .int .i64 n, .int .i64 k] w fun e w' => e = .returned (.bool true) ∧ Below w.heap.size w w' := by
  by_cases h : m < 0 ∨ 127 < m ∨ n < 0 ∨ 127 < n ∨ k < 0 ∨ 127 < k
  · exact grows_out m n k h w
  · obtain ⟨m, rfl⟩ := Int.eq_ofNat_of_zero_le (by omega : 0 ≤ m)
    obtain ⟨n, rfl⟩ := Int.eq_ofNat_of_zero_le (by omega : 0 ≤ n)
    obtain ⟨k, rfl⟩ := Int.eq_ofNat_of_zero_le (by omega : 0 ≤ k)
    exact grows_in m n k (by omega) (by omega) (by omega) w
end Go.Proofs.Ytkgedgihjmhogaa.Council
