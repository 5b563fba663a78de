/- The law CouncilAll. -/
import Derived.Test.YtkgedgihjmhogaaCouncil6
import Derived.Test.YtkgedgihjmhogaaCoD
namespace Go.Proofs.Ytkgedgihjmhogaa.Council
open Go.RowKit Mem
set_option linter.unusedSimpArgs false
set_option linter.unusedVariables false

theorem ne_calls (a b : Nat) (ha : a < 128) (hb : b < 128) (w : World) : Calls Try.prog 27 #[.int .i64 a, .int .i64 b] w fun e w' => e = .returned (.bool (Co.nearK a b)) ∧ Mod w w' [] := by
  have h : Co.nearB a b = Co.nearK a b := by unfold Co.nearB; rw [Co.kn_nat a ha, Co.kn_nat b hb]
  rw [← h]; exact near_calls a b w

theorem meets_and (a b x y : Nat) (ha : a < 128) (hb : b < 128) (h : Co.nearK a b = true) (hx : Co.enK a x = true) (hy : Co.enK b y = true) : x &&& y ≠ 0 := by
  unfold Co.enK at hx hy
  rw [decide_eq_true_iff] at hx hy
  obtain ⟨i, hi, h1, h2, _⟩ := Co.meets a b x y ha hb h hx hy
  intro h0
  have h3 := Co.hb_and x y i
  rw [h0, h1, h2, Co.hb_zero] at h3
  cases h3

theorem near_self (a : Nat) (ha : a < 128) (h : a ≠ 0) : Co.nearK a a = true := by
  have h0 : a ^^^ a = 0 := Nat.xor_self a
  have hc : Co.cnt 0 = 0 := by decide +kernel
  unfold Co.nearK
  rw [h0, hc]
  simp [h]

set_option maxHeartbeats 2000000 in
theorem all_calls (a : Int) (h1 : -9223372036854775808 ≤ a) (h2 : a ≤ 9223372036854775807) (w : World) :
    Calls Try.prog 8 #[.int .i64 a] w fun e w' => e = .returned (.bool true) ∧ Below w.heap.size w w' := by
  obtain ⟨r, hr⟩ : ∃ r, a.tmod 128 = r := ⟨_, rfl⟩
  have hr1 : -128 < r := by rw [← hr]; have := Int.tmod_lt_of_pos (-a) (by decide : (0 : Int) < 128); rw [Int.neg_tmod] at this; omega
  have hr2 : r < 128 := by rw [← hr]; exact Int.tmod_lt_of_pos a (by decide)
  obtain ⟨A, hA⟩ : ∃ A : Nat, (A : Int) = (r + 128) % 128 := ⟨((r + 128) % 128).toNat, by omega⟩
  have hA2 : A < 128 := by omega
  have hAt : (r + 128).tmod 128 = (A : Int) := by rw [Int.tmod_eq_emod_of_nonneg (by omega), hA]
  have hAe : (r + 128) % 128 = (A : Int) := hA.symm
  have hsum : IntKind.i64.wrap (r + 128) = r + 128 := IntWalk.i64_in _ (by omega)
  have AW := Lib.hid awake_calls
  have NE := Lib.hid (fun b hb w => ne_calls A b hA2 hb w)
  have NS := Lib.hid (near_self A hA2)
  have EA := Lib.hid (fun b hb w => en_calls A b hA2 hb w)
  have EN := Lib.hid (fun a b ha hb w => en_calls a b ha hb w)
  have MT := Lib.hid (fun b x y hb => meets_and A b x y hA2 hb)
  clear hA
  go_enter Try.func8, Try.ntmps8
  go_wp2_with fail
  go_loopw [3] (fun vb wr => ∃ b : Nat, b ≤ 128 ∧ vb = .int .i64 (b : Int) ∧ Mod w wr []) (fun vb _ => 129 - (intOf vb).toNat)
  case atStart => exact ⟨0, by omega, rfl, Mod.refl _ _⟩
  case round =>
    obtain ⟨b, hb, rfl, hmod⟩ := hrel
    have HM := Lib.hid hmod
    clear hmod
    by_cases hlt : b < 128
    · have hlt' : (b : Int) < 128 := by omega
      have NB := Lib.hid (NE.out b hlt)
      have EB := Lib.hid (fun y hy => EN.out b y hlt hy)
      cases hn : Co.nearK A b
      · rw [hn] at NB
        clear hn
        go_wp2_with fail
        refine (NB.out _).mono ?_
        rintro e w1 ⟨rfl, hm1⟩
        go_wp2_with fail
        go_roundw
        case rel => exact ⟨b + 1, by omega, by go_num, HM.out.trans0 hm1⟩
        case measure => simp [intOf]; omega
      · rw [hn] at NB
        have MB := Lib.hid (fun x y => MT.out b x y hlt hn)
        clear hn
        go_wp2_with fail
        refine (NB.out _).mono ?_
        rintro e w1 ⟨rfl, hm1⟩
        have HM1 := Lib.hid (HM.out.trans0 hm1)
        clear hm1
        go_wp2_with fail
        go_loopw [4] (fun vx wr => ∃ x : Nat, x ≤ 128 ∧ vx = .int .i64 (x : Int) ∧ Mod w wr []) (fun vx _ => 129 - (intOf vx).toNat)
        case atStart => exact ⟨0, by omega, rfl, HM1.out⟩
        case round =>
          obtain ⟨x, hx, rfl, hmod⟩ := hrel
          have HM2 := Lib.hid hmod
          clear hmod
          by_cases hxl : x < 128
          · have hxl' : (x : Int) < 128 := by omega
            have hand := Co.and_i64 x A (by omega) (by omega)
            by_cases hxa : x &&& A = x
            · rw [hxa] at hand
              have EX := Lib.hid (EA.out x hxl)
              cases he : Co.enK A x
              · rw [he] at EX
                clear he hxa
                go_wp2_with fail
                refine (EX.out _).mono ?_
                rintro e w2 ⟨rfl, hm2⟩
                go_wp2_with fail
                go_roundw
                case rel => exact ⟨x + 1, by omega, by go_num, HM2.out.trans0 hm2⟩
                case measure => simp [intOf]; omega
              · rw [he] at EX
                have MX := Lib.hid (fun y => MB.out x y he)
                clear he hxa
                go_wp2_with fail
                refine (EX.out _).mono ?_
                rintro e w2 ⟨rfl, hm2⟩
                have HM3 := Lib.hid (HM2.out.trans0 hm2)
                clear hm2 hand
                go_wp2_with fail
                go_loopw [5] (fun vy wr => ∃ y : Nat, y ≤ 128 ∧ vy = .int .i64 (y : Int) ∧ Mod w wr []) (fun vy _ => 129 - (intOf vy).toNat)
                case atStart => exact ⟨0, by omega, rfl, HM3.out⟩
                case round =>
                  obtain ⟨y, hy, rfl, hmod⟩ := hrel
                  have HM4 := Lib.hid hmod
                  clear hmod
                  by_cases hyl : y < 128
                  · have hyl' : (y : Int) < 128 := by omega
                    have hand2 := Co.and_i64 y b (by omega) (by omega)
                    by_cases hyb : y &&& b = y
                    · rw [hyb] at hand2
                      have EY := Lib.hid (EB.out y hyl)
                      cases he2 : Co.enK b y
                      · rw [he2] at EY
                        clear he2 hyb
                        go_wp2_with fail
                        refine (EY.out _).mono ?_
                        rintro e w3 ⟨rfl, hm3⟩
                        go_wp2_with fail
                        go_roundw
                        case rel => exact ⟨y + 1, by omega, by go_num, HM4.out.trans0 hm3⟩
                        case measure => simp [intOf]; omega
                      · rw [he2] at EY
                        have hand3 := Co.and_i64 x y (by omega) (by omega)
                        have hne := MX.out y he2
                        have hne' : (((x &&& y : Nat) : Int) == 0) = false := by rw [beq_eq_false_iff_ne]; omega
                        clear he2 hyb hne
                        generalize x &&& y = z at *
                        go_wp2_with fail
                        refine (EY.out _).mono ?_
                        rintro e w3 ⟨rfl, hm3⟩
                        go_wp2_with fail
                        go_roundw
                        case rel => exact ⟨y + 1, by omega, by go_num, HM4.out.trans0 hm3⟩
                        case measure => simp [intOf]; omega
                    · have hne' : (((y &&& b : Nat) : Int) == (y : Int)) = false := by rw [beq_eq_false_iff_ne]; omega
                      clear hyb
                      generalize y &&& b = z at *
                      go_wp2_with fail
                      go_roundw
                      case rel => exact ⟨y + 1, by omega, by go_num, HM4.out⟩
                      case measure => simp [intOf]; omega
                  · obtain rfl : y = 128 := by omega
                    go_wp2_with fail
                    go_roundw
                    case rel => exact ⟨x + 1, by omega, by go_num, HM4.out⟩
                    case measure => simp [intOf]; omega
            · have hne' : (((x &&& A : Nat) : Int) != (x : Int)) = true := by rw [bne_iff_ne]; omega
              clear hxa
              generalize x &&& A = z at *
              go_wp2_with fail
              go_roundw
              case rel => exact ⟨x + 1, by omega, by go_num, HM2.out⟩
              case measure => simp [intOf]; omega
          · obtain rfl : x = 128 := by omega
            go_wp2_with fail
            go_roundw
            case rel => exact ⟨b + 1, by omega, by go_num, HM2.out⟩
            case measure => simp [intOf]; omega
    · obtain rfl : b = 128 := by omega
      by_cases hA0 : A = 0
      · subst hA0
        go_wp2_with fail
        refine (AW.out _).mono ?_
        rintro e w1 ⟨rfl, hm1⟩
        go_wp2_with fail
        go_ret
        exact ⟨rfl, (HM.out.trans0 hm1).below0⟩
      · have NA := Lib.hid (NE.out A hA2)
        rw [NS.out hA0] at NA
        have hA0' : ((A : Int) == 0) = false := by rw [beq_eq_false_iff_ne]; omega
        clear hA0
        go_wp2_with fail
        refine (AW.out _).mono ?_
        rintro e w1 ⟨rfl, hm1⟩
        go_wp2_with fail
        refine (NA.out _).mono ?_
        rintro e w2 ⟨rfl, hm2⟩
        go_wp2_with fail
        go_ret
        exact ⟨rfl, ((HM.out.trans0 hm1).trans0 hm2).below0⟩

theorem councilAll_calls (w : World) (a : Int) (hn : (Lit.int .i64 a).wf = true) :
    Calls Try.prog 8 #[.int .i64 a] w fun e w' => e = .returned (.bool true) ∧ Below w.heap.size w w' := by
  obtain ⟨h2, h3⟩ : -9223372036854775808 ≤ a ∧ a ≤ 9223372036854775807 := by simpa [Lit.wf, IntKind.min, IntKind.max, IntKind.signed, IntKind.bits] using hn
  exact all_calls a h2 h3 w
end Go.Proofs.Ytkgedgihjmhogaa.Council
