/- The law CouncilLine. -/
import Derived.Test.YtkgedgihjmhogaaCoF
import Derived.Test.YtkgedgihjmhogaaQuiet
import Derived.Test.YtkgedgihjmhogaaOpen3
namespace Go.Proofs.Ytkgedgihjmhogaa.Council
open Go.RowKit Mem
set_option linter.unusedSimpArgs false
set_option linter.unusedVariables false

def isTo (p : Nat → Bool) : Nat → Bool
  | 0 => false
  | j + 1 => isTo p j || p j
theorem isTo_true (p : Nat → Bool) (i : Nat) (h : p i = true) : ∀ j, i < j → isTo p j = true
  | 0, hj => by omega
  | j + 1, hj => by
    unfold isTo
    by_cases he : i = j
    · subst he; rw [h, Bool.or_true]
    · rw [isTo_true p i h j (by omega), Bool.true_or]

set_option maxHeartbeats 1000000 in
theorem line_calls (m : Int) (f : Nat → Int) (w : World) :
    Calls Try.prog 9 #[.int .i64 m, vals7 f] w fun e w' => e = .returned (.bool true) ∧ Below w.heap.size w w' := by
  have rc := fun w => reached_calls m f w
  have sc := fun w => size_calls m w
  have hin := hasI_in m
  have hl := Co.cnt_le (Co.kn m)
  have hkl := Co.kn_lt m
  have hfacts := Co.line_facts (Co.kn m) f
  have hz : Co.cnt (Co.kn m) = 0 → reachL ((Co.nodesL (Co.kn m)).map f) = 0 := fun h => by
    unfold reachL; rw [if_pos (by rw [List.length_map]; exact h)]
  have ec : ∀ q : Nat, q < 128 → ∀ w, Calls Try.prog 25 #[.int .i64 m, .int .i64 q] w fun e w' => e = .returned (.bool (Co.enK (Co.kn m) q)) ∧ Mod w w' [] := fun q hq w => by
    have h : Co.enoughB m q = Co.enK (Co.kn m) q := by unfold Co.enoughB Co.enK; rw [Co.kn_nat q hq]
    rw [← h]; exact enough_calls m q w
  have HC := Lib.hid (fun i w => has_calls m i w)
  have AW := Lib.hid awake_calls
  generalize reachL ((Co.nodesL (Co.kn m)).map f) = x at *
  generalize Co.cnt (Co.kn m) = c at *
  generalize Co.kn m = k at *
  have RC := Lib.hid rc
  have SC := Lib.hid sc
  have HIN := Lib.hid hin
  have EC := Lib.hid ec
  clear rc sc hin ec
  have hb0 := Blk.new w #[.int .i64 (f 0), .int .i64 (f 1), .int .i64 (f 2), .int .i64 (f 3), .int .i64 (f 4), .int .i64 (f 5), .int .i64 (f 6)] 47
  have HM0 := Lib.hid ((Mod.refl w []).alloc (.cells #[.int .i64 (f 0), .int .i64 (f 1), .int .i64 (f 2), .int .i64 (f 3), .int .i64 (f 4), .int .i64 (f 5), .int .i64 (f 6)] 47))
  have HB0 := Lib.hid hb0
  clear hb0
  by_cases hc : c = 0
  · have hx := hz hc
    subst hc hx
    clear hfacts hz
    go_enter Try.func9, Try.ntmps9
    go_wp2_with fail
    refine (RC.out _).mono ?_
    rintro e w1 ⟨rfl, hm1⟩
    go_wp2_with fail
    refine (SC.out _).mono ?_
    rintro e w2 ⟨rfl, hm2⟩
    go_wp2_with fail
    refine (AW.out _).mono ?_
    rintro e w3 ⟨rfl, hm3⟩
    go_wp2_with fail
    go_ret
    exact ⟨rfl, (((HM0.out.trans0 hm1).trans0 hm2).trans0 hm3).below0⟩
  · obtain ⟨⟨i0, hi0, hib, hix⟩, hr, ha⟩ := hfacts hc
    have hc' : ((c : Int) == 0) = false := by rw [beq_eq_false_iff_ne]; omega
    clear hfacts hz hc
    obtain ⟨R, hR⟩ : ∃ R, R = Co.maskTo (fun i => Co.hb k i && decide (x ≤ f i)) := ⟨_, rfl⟩
    obtain ⟨B, hB⟩ : ∃ B, B = Co.maskTo (fun i => Co.hb k i && decide (x < f i)) := ⟨_, rfl⟩
    obtain ⟨T, hT⟩ : ∃ T, T = isTo (fun i => Co.hb k i && decide (f i = x)) := ⟨_, rfl⟩
    rw [← hR] at hr
    rw [← hB] at ha
    have hTt : T 7 = true := by rw [hT]; exact isTo_true _ i0 (by simp [hib, hix]) 7 hi0
    have R0 : R 0 = 0 := by rw [hR]; rfl
    have B0 : B 0 = 0 := by rw [hB]; rfl
    have T0 : T 0 = false := by rw [hT]; rfl
    have RS : ∀ j, R (j + 1) = if (Co.hb k j && decide (x ≤ f j)) then R j ||| 2 ^ j else R j := fun j => by rw [hR]; rfl
    have BS : ∀ j, B (j + 1) = if (Co.hb k j && decide (x < f j)) then B j ||| 2 ^ j else B j := fun j => by rw [hB]; rfl
    have TS : ∀ j, T (j + 1) = (T j || (Co.hb k j && decide (f j = x))) := fun j => by rw [hT]; rfl
    have RL : ∀ j, j ≤ 7 → R j < 128 := fun j h => by rw [hR]; exact Co.mask_lt _ j h
    have BL : ∀ j, j ≤ 7 → B j < 128 := fun j h => by rw [hB]; exact Co.mask_lt _ j h
    clear hR hB hT hib hix
    have hall := Lib.hid (And.intro hr (And.intro ha (And.intro hTt (And.intro R0 (And.intro B0 T0)))))
    have HRS := Lib.hid RS
    have HBS := Lib.hid BS
    have HTS := Lib.hid TS
    have HRL := Lib.hid RL
    have HBL := Lib.hid BL
    clear hr ha hTt R0 B0 T0 RS BS TS RL BL
    go_enter Try.func9, Try.ntmps9
    go_wp2_with fail
    refine (RC.out _).mono ?_
    rintro e w1 ⟨rfl, hm1⟩
    go_wp2_with fail
    refine (SC.out _).mono ?_
    rintro e w2 ⟨rfl, hm2⟩
    have HM := Lib.hid ((HM0.out.trans0 hm1).trans0 hm2)
    have hbx := (HB0.out.mod hm1 (by simp)).mod hm2 (by simp)
    have HBX := Lib.hid hbx
    clear hm1 hm2 hbx
    go_wp2_with fail
    go_loop [6, 7, 8, 9] (fun vr vb vt vj => ∃ j : Nat, j ≤ 7 ∧ vj = .int .i64 (j : Int) ∧ vr = .int .i64 (R j : Nat) ∧ vb = .int .i64 (B j : Nat) ∧ vt = .bool (T j)) (fun _ _ _ vj => 8 - (intOf vj).toNat)
    case atStart => exact ⟨0, by omega, rfl, by rw [hall.out.2.2.2.1]; rfl, by rw [hall.out.2.2.2.2.1]; rfl, by rw [hall.out.2.2.2.2.2]⟩
    case round =>
      obtain ⟨j, hj, rfl, rfl, rfl, rfl⟩ := hrel
      by_cases hlt : j < 7
      · have hlt' : (j : Int) < 7 := by omega
        have hcx : w2.cell? ⟨w.heap.size, j, none⟩ = some (.int .i64 (f j)) := by rw [HBX.out.cell j, vals7_get f j hlt]
        have HI := Lib.hid (HIN.out j hlt)
        have hrs := HRS.out j
        have hbs := HBS.out j
        have hts := HTS.out j
        have hr1 := Co.or_i64 (R j) (2 ^ j) (HRL.out j hj) (Nat.lt_of_lt_of_le (Nat.pow_lt_pow_right (by decide) hlt) (by decide))
        have hb1 := Co.or_i64 (B j) (2 ^ j) (HBL.out j hj) (Nat.lt_of_lt_of_le (Nat.pow_lt_pow_right (by decide) hlt) (by decide))
        cases hb : Co.hb k j
        · rw [hb] at HI
          simp only [hb, Bool.false_and, Bool.false_eq_true, if_false, Bool.or_false] at hrs hbs hts
          have H1 := Lib.hid hrs
          have H2 := Lib.hid hbs
          have H3 := Lib.hid hts
          clear hrs hbs hts hb hr1 hb1
          go_wp2_with fail
          refine (HC.out _ _).mono ?_
          rintro e w3 ⟨rfl, rfl⟩
          rw [HI.out]
          go_wp2_with fail
          go_round
          case rel => exact ⟨j + 1, by omega, by go_num, by rw [H1.out], by rw [H2.out], by rw [H3.out]⟩
          case measure => simp [intOf]; omega
        · rw [hb] at HI
          simp only [hb, Bool.true_and] at hrs hbs hts
          have hsh : (2 : Int) ^ j = ((2 ^ j : Nat) : Int) := by rw [Int.natCast_pow]; rfl
          have hpl : 2 ^ j < 128 := Nat.lt_of_lt_of_le (Nat.pow_lt_pow_right (by decide) hlt) (by decide)
          have hRl := HRL.out j hj
          have hBl := HBL.out j hj
          have hRo := Co.or_lt _ _ hRl hpl
          have hBo := Co.or_lt _ _ hBl hpl
          generalize f j = y at *
          generalize hTj : T j = tj at *
          generalize R j = rj at *
          generalize B j = bj at *
          generalize 2 ^ j = pj at *
          rcases (by omega : y < x ∨ y = x ∨ x < y) with hy | hy | hy
          · rw [if_neg (by simp; omega)] at hrs hbs
            rw [decide_eq_false (by omega), Bool.or_false] at hts
            have hne : (y == x) = false := by rw [beq_eq_false_iff_ne]; omega
            have H1 := Lib.hid hrs
            have H2 := Lib.hid hbs
            have H3 := Lib.hid hts
            clear hrs hbs hts hb hTj
            cases tj
            all_goals
              go_wp2_with fail
              refine (HC.out _ _).mono ?_
              rintro e w3 ⟨rfl, rfl⟩
              rw [HI.out]
              go_wp2_with fail
              go_round
              case rel => exact ⟨j + 1, by omega, by go_num, by rw [H1.out], by rw [H2.out], by rw [H3.out]⟩
              case measure => simp [intOf]; omega
          · subst hy
            rw [if_pos (by simp)] at hrs
            rw [if_neg (by simp)] at hbs
            rw [decide_eq_true rfl, Bool.or_true] at hts
            have H1 := Lib.hid hrs
            have H2 := Lib.hid hbs
            have H3 := Lib.hid hts
            clear hrs hbs hts hb hTj
            cases tj
            all_goals
              go_wp2_with fail
              refine (HC.out _ _).mono ?_
              rintro e w3 ⟨rfl, rfl⟩
              rw [HI.out]
              go_wp2_with fail
              go_round
              case rel => exact ⟨j + 1, by omega, by go_num, by rw [H1.out], by rw [H2.out], by rw [H3.out]⟩
              case measure => simp [intOf]; omega
          · rw [if_pos (by simp; omega)] at hrs hbs
            rw [decide_eq_false (by omega), Bool.or_false] at hts
            have hne : (y == x) = false := by rw [beq_eq_false_iff_ne]; omega
            have H1 := Lib.hid hrs
            have H2 := Lib.hid hbs
            have H3 := Lib.hid hts
            clear hrs hbs hts hb hTj
            cases tj
            all_goals
              go_wp2_with fail
              refine (HC.out _ _).mono ?_
              rintro e w3 ⟨rfl, rfl⟩
              rw [HI.out]
              go_wp2_with fail
              go_round
              case rel => exact ⟨j + 1, by omega, by go_num, by rw [H1.out], by rw [H2.out], by rw [H3.out]⟩
              case measure => simp [intOf]; omega
      · obtain rfl : j = 7 := by omega
        obtain ⟨h1, h2, h3, _⟩ := hall.out
        have E1 := Lib.hid (fun w => EC.out (R 7) (HRL.out 7 (by omega)) w)
        have E2 := Lib.hid (fun w => EC.out (B 7) (HBL.out 7 (by omega)) w)
        rw [h1] at E1
        rw [h2] at E2
        rw [h3]
        clear h1 h2 h3
        generalize R 7 = rj at *
        generalize B 7 = bj at *
        go_wp2_with fail
        refine (AW.out _).mono ?_
        rintro e w3 ⟨rfl, hm3⟩
        go_wp2_with fail
        refine (E1.out _).mono ?_
        rintro e w4 ⟨rfl, hm4⟩
        go_wp2_with fail
        refine (E2.out _).mono ?_
        rintro e w5 ⟨rfl, hm5⟩
        go_wp2_with fail
        go_ret
        exact ⟨rfl, (((HM.out.trans0 hm3).trans0 hm4).trans0 hm5).below0⟩

theorem councilLine_calls (w : World) (m : Int) (hm : (Lit.int .i64 m).wf = true) (f : Nat → Int) (_ : ∀ i, i < 7 → (Lit.int .i64 (f i)).wf = true) :
    Calls Try.prog 9 #[.int .i64 m, vals7 f] w fun e w' => e = .returned (.bool true) ∧ Below w.heap.size w w' := line_calls m f w
end Go.Proofs.Ytkgedgihjmhogaa.Council
