/- The law CouncilMeets. -/
import Derived.Test.YtkgedgihjmhogaaCouncil5
import Derived.Test.YtkgedgihjmhogaaCoD
import Derived.Test.YtkgedgihjmhogaaQuiet
import Derived.Test.YtkgedgihjmhogaaOpen2
namespace Go.Proofs.Ytkgedgihjmhogaa.Council
open Go.RowKit Mem
set_option linter.unusedSimpArgs false
set_option linter.unusedVariables false

set_option maxHeartbeats 1000000 in
theorem meets_calls (m n a b : Int) (w : World) :
    Calls Try.prog 7 #[.int .i64 m, .int .i64 n, .agg #[.int .i64 a, .int .i64 b]] w fun e w' => e = .returned (.bool true) ∧ Below w.heap.size w w' := by
  have c1 := fun w => near_calls m n w
  have c2 := fun w => enough_calls m a w
  have c3 := fun w => enough_calls n b w
  have h1 := hasI_in a
  have h2 := hasI_in b
  have h3 := hasI_in m
  have h4 := hasI_in n
  have hmeet : Co.nearB m n = true → Co.enoughB m a = true → Co.enoughB n b = true → ∃ i, i < 7 ∧ Co.hb (Co.kn a) i = true ∧ Co.hb (Co.kn b) i = true ∧ Co.hb (Co.kn m) i = true ∧ Co.hb (Co.kn n) i = true := fun x y z => by
    unfold Co.enoughB at y z
    rw [decide_eq_true_iff] at y z
    exact Co.meets _ _ _ _ (Co.kn_lt m) (Co.kn_lt n) x y z
  generalize Co.nearB m n = e1 at *
  generalize Co.enoughB m a = e2 at *
  generalize Co.enoughB n b = e3 at *
  generalize Co.kn a = A at *
  generalize Co.kn b = B at *
  generalize Co.kn m = M at *
  generalize Co.kn n = N at *
  have C1 := Lib.hid c1
  have C2 := Lib.hid c2
  have C3 := Lib.hid c3
  have HA := Lib.hid (fun i w => has_calls a i w)
  have HB := Lib.hid (fun i w => has_calls b i w)
  have HMm := Lib.hid (fun i w => has_calls m i w)
  have HN := Lib.hid (fun i w => has_calls n i w)
  have EA := Lib.hid h1
  have EB := Lib.hid h2
  have EM := Lib.hid h3
  have EN := Lib.hid h4
  have AW := Lib.hid awake_calls
  have HX := Lib.hid hmeet
  clear c1 c2 c3 h1 h2 h3 h4 hmeet
  have hb0 := Blk.new w #[.int .i64 a, .int .i64 b] 40
  have hx0 := cell_after hb0.lt (hb0.cell 0)
  have hx1 := cell_after hb0.lt (hb0.cell 1)
  simp at hx0 hx1
  have HM0 := Lib.hid ((Mod.refl w []).alloc (.cells #[.int .i64 a, .int .i64 b] 40))
  clear hb0
  cases e1
  · clear HX
    go_enter Try.func7, Try.ntmps7
    go_wp2_with fail
    (refine wp_region_quiet_after (by kernel_rfl) (by kernel_rfl) ?_; (repeat (go_big_quiet_step (fail))); refine wpQuiet_nil ?_; intro wq hw'; obtain ⟨⟨wq2, hmq⟩, hw''⟩ := hw'; subst hw'')
    have HQ := Lib.hid (HM0.out.trans0 hmq)
    clear hmq
    go_wp2_with fail
    refine (C1.out _).mono ?_
    rintro e w1 ⟨rfl, hm1⟩
    go_wp2_with fail
    refine (AW.out _).mono ?_
    rintro e w2 ⟨rfl, hm2⟩
    go_wp2_with fail
    go_ret
    exact ⟨rfl, ((HQ.out.trans0 hm1).trans0 hm2).below0⟩
  cases e2
  · clear HX
    go_enter Try.func7, Try.ntmps7
    go_wp2_with fail
    (refine wp_region_quiet_after (by kernel_rfl) (by kernel_rfl) ?_; (repeat (go_big_quiet_step (fail))); refine wpQuiet_nil ?_; intro wq hw'; obtain ⟨⟨wq2, hmq⟩, hw''⟩ := hw'; subst hw'')
    have HQ := Lib.hid (HM0.out.trans0 hmq)
    clear hmq
    go_wp2_with fail
    refine (C1.out _).mono ?_
    rintro e w1 ⟨rfl, hm1⟩
    go_wp2_with fail
    refine (C2.out _).mono ?_
    rintro e w2 ⟨rfl, hm2⟩
    go_wp2_with fail
    refine (AW.out _).mono ?_
    rintro e w3 ⟨rfl, hm3⟩
    go_wp2_with fail
    go_ret
    exact ⟨rfl, (((HQ.out.trans0 hm1).trans0 hm2).trans0 hm3).below0⟩
  cases e3
  · clear HX
    go_enter Try.func7, Try.ntmps7
    go_wp2_with fail
    (refine wp_region_quiet_after (by kernel_rfl) (by kernel_rfl) ?_; (repeat (go_big_quiet_step (fail))); refine wpQuiet_nil ?_; intro wq hw'; obtain ⟨⟨wq2, hmq⟩, hw''⟩ := hw'; subst hw'')
    have HQ := Lib.hid (HM0.out.trans0 hmq)
    clear hmq
    go_wp2_with fail
    refine (C1.out _).mono ?_
    rintro e w1 ⟨rfl, hm1⟩
    go_wp2_with fail
    refine (C2.out _).mono ?_
    rintro e w2 ⟨rfl, hm2⟩
    go_wp2_with fail
    refine (C3.out _).mono ?_
    rintro e w3 ⟨rfl, hm3⟩
    go_wp2_with fail
    refine (AW.out _).mono ?_
    rintro e w4 ⟨rfl, hm4⟩
    go_wp2_with fail
    go_ret
    exact ⟨rfl, ((((HQ.out.trans0 hm1).trans0 hm2).trans0 hm3).trans0 hm4).below0⟩
  obtain ⟨i0, hi0, ha0, hb0, hm0, hn0⟩ := HX.out rfl rfl rfl
  clear HX
  have FA := Lib.hid ha0
  have FB := Lib.hid hb0
  have FM := Lib.hid hm0
  clear ha0 hb0 hm0 hn0
  go_enter Try.func7, Try.ntmps7
  go_wp2_with fail
  (refine wp_region_quiet_after (by kernel_rfl) (by kernel_rfl) ?_; (repeat (go_big_quiet_step (fail))); refine wpQuiet_nil ?_; intro wq hw'; obtain ⟨⟨wq2, hmq⟩, hw''⟩ := hw'; subst hw'')
  have HQ := Lib.hid (HM0.out.trans0 hmq)
  clear hmq
  go_wp2_with fail
  refine (C1.out _).mono ?_
  rintro e w1 ⟨rfl, hm1⟩
  go_wp2_with fail
  refine (C2.out _).mono ?_
  rintro e w2 ⟨rfl, hm2⟩
  go_wp2_with fail
  refine (C3.out _).mono ?_
  rintro e w3 ⟨rfl, hm3⟩
  have HM := Lib.hid (((HQ.out.trans0 hm1).trans0 hm2).trans0 hm3)
  clear hm1 hm2 hm3
  go_wp2_with fail
  go_loop [9] (fun vj => ∃ j : Nat, j ≤ i0 ∧ vj = .int .i64 (j : Int)) (fun vj => 8 - (intOf vj).toNat)
  case atStart => exact ⟨0, by omega, rfl⟩
  case round =>
    obtain ⟨j, hj, rfl⟩ := hrel
    have hlt : (j : Int) < 7 := by omega
    have hj7 : j < 7 := by omega
    have E1 := Lib.hid (EA.out j hj7)
    have E2 := Lib.hid (EB.out j hj7)
    have E3 := Lib.hid (EM.out j hj7)
    have E4 := Lib.hid (EN.out j hj7)
    by_cases hje : j = i0
    · subst hje
      rw [FA.out] at E1
      rw [FB.out] at E2
      rw [FM.out] at E3
      go_wp2_with fail
      refine (HA.out _ _).mono ?_
      rintro e w4 ⟨rfl, rfl⟩
      rw [E1.out]
      go_wp2_with fail
      refine (HB.out _ _).mono ?_
      rintro e w4 ⟨rfl, rfl⟩
      rw [E2.out]
      go_wp2_with fail
      refine (HMm.out _ _).mono ?_
      rintro e w4 ⟨rfl, rfl⟩
      rw [E3.out]
      go_wp2_with fail
      refine (AW.out _).mono ?_
      rintro e w4 ⟨rfl, hm4⟩
      go_wp2_with fail
      go_ret
      exact ⟨rfl, (HM.out.trans0 hm4).below0⟩
    · have hjl : j + 1 ≤ i0 := by omega
      cases t1 : Co.hb A j
      · rw [t1] at E1
        clear t1
        go_wp2_with fail
        refine (HA.out _ _).mono ?_
        rintro e w4 ⟨rfl, rfl⟩
        rw [E1.out]
        go_wp2_with fail
        go_round
        case rel => exact ⟨j + 1, hjl, by go_num⟩
        case measure => simp [intOf]; omega
      · rw [t1] at E1
        clear t1
        cases t2 : Co.hb B j
        · rw [t2] at E2
          clear t2
          go_wp2_with fail
          refine (HA.out _ _).mono ?_
          rintro e w4 ⟨rfl, rfl⟩
          rw [E1.out]
          go_wp2_with fail
          refine (HB.out _ _).mono ?_
          rintro e w4 ⟨rfl, rfl⟩
          rw [E2.out]
          go_wp2_with fail
          go_round
          case rel => exact ⟨j + 1, hjl, by go_num⟩
          case measure => simp [intOf]; omega
        · rw [t2] at E2
          clear t2
          cases t3 : Co.hb M j
          · rw [t3] at E3
            clear t3
            cases t4 : Co.hb N j
            · rw [t4] at E4
              clear t4
              go_wp2_with fail
              refine (HA.out _ _).mono ?_
              rintro e w4 ⟨rfl, rfl⟩
              rw [E1.out]
              go_wp2_with fail
              refine (HB.out _ _).mono ?_
              rintro e w4 ⟨rfl, rfl⟩
              rw [E2.out]
              go_wp2_with fail
              refine (HMm.out _ _).mono ?_
              rintro e w4 ⟨rfl, rfl⟩
              rw [E3.out]
              go_wp2_with fail
              refine (HN.out _ _).mono ?_
              rintro e w4 ⟨rfl, rfl⟩
              rw [E4.out]
              go_wp2_with fail
              go_round
              case rel => exact ⟨j + 1, hjl, by go_num⟩
              case measure => simp [intOf]; omega
            · rw [t4] at E4
              clear t4
              go_wp2_with fail
              refine (HA.out _ _).mono ?_
              rintro e w4 ⟨rfl, rfl⟩
              rw [E1.out]
              go_wp2_with fail
              refine (HB.out _ _).mono ?_
              rintro e w4 ⟨rfl, rfl⟩
              rw [E2.out]
              go_wp2_with fail
              refine (HMm.out _ _).mono ?_
              rintro e w4 ⟨rfl, rfl⟩
              rw [E3.out]
              go_wp2_with fail
              refine (HN.out _ _).mono ?_
              rintro e w4 ⟨rfl, rfl⟩
              rw [E4.out]
              go_wp2_with fail
              refine (AW.out _).mono ?_
              rintro e w4 ⟨rfl, hm4⟩
              go_wp2_with fail
              go_ret
              exact ⟨rfl, (HM.out.trans0 hm4).below0⟩
          · rw [t3] at E3
            clear t3
            go_wp2_with fail
            refine (HA.out _ _).mono ?_
            rintro e w4 ⟨rfl, rfl⟩
            rw [E1.out]
            go_wp2_with fail
            refine (HB.out _ _).mono ?_
            rintro e w4 ⟨rfl, rfl⟩
            rw [E2.out]
            go_wp2_with fail
            refine (HMm.out _ _).mono ?_
            rintro e w4 ⟨rfl, rfl⟩
            rw [E3.out]
            go_wp2_with fail
            refine (AW.out _).mono ?_
            rintro e w4 ⟨rfl, hm4⟩
            go_wp2_with fail
            go_ret
            exact ⟨rfl, (HM.out.trans0 hm4).below0⟩

theorem councilMeets_calls (w : World) (m : Int) (hm : (Lit.int .i64 m).wf = true) (n : Int) (hn : (Lit.int .i64 n).wf = true) (a : Int × Int) (_ : True) :
    Calls Try.prog 7 #[.int .i64 m, .int .i64 n, .agg #[.int .i64 a.1, .int .i64 a.2]] w fun e w' => e = .returned (.bool true) ∧ Below w.heap.size w w' := meets_calls m n a.1 a.2 w
end Go.Proofs.Ytkgedgihjmhogaa.Council
