/- The contract of the reference's Reached; the law CouncilReaches. -/
import Derived.Test.YtkgedgihjmhogaaCouncilB
import Derived.Test.YtkgedgihjmhogaaOpen3
namespace Go.Proofs.Ytkgedgihjmhogaa.Council
open Go.RowKit Mem
set_option linter.unusedSimpArgs false
set_option linter.unusedVariables false

set_option maxHeartbeats 2000000 in
theorem refreached_calls (m : Int) (f : Nat → Int) (w : World) : Calls Try.prog 30 #[.int .i64 m, vals7 f] w fun e w' => e = .returned (.int .i64 (reachL ((Co.nodesL (Co.kn m)).map f))) ∧ Mod w w' [] := by
  rw [← best_is]
  have hin := hasI_in m
  have sc := fun w => refsize_calls m w
  have hl := Co.cnt_le (Co.kn m)
  have HC := Lib.hid (fun i w => refhas_calls m i w)
  generalize hkk : Co.kn m = k at *
  obtain ⟨G, hG⟩ : ∃ G, G = geTo k f := ⟨_, rfl⟩
  obtain ⟨T, hT⟩ : ∃ T, T = bestTo k f := ⟨_, rfl⟩
  rw [← hT]
  have T0 : T 0 = (0, false) := by rw [hT]; rfl
  have TS : ∀ i, T (i + 1) = if Co.hb k i = true ∧ Co.cnt k < 2 * G i 7 ∧ ((T i).2 = false ∨ (T i).1 < f i) then (f i, true) else T i := fun i => by rw [hT, hG]; rfl
  have G0 : ∀ i, G i 0 = 0 := fun i => by rw [hG]; rfl
  have GS : ∀ i j, G i (j + 1) = if Co.hb k j && decide (f i ≤ f j) then G i j + 1 else G i j := fun i j => by rw [hG]; rfl
  have GL : ∀ i j, G i j ≤ j := fun i j => by rw [hG]; exact geTo_le k f i j
  generalize Co.cnt k = c at *
  have SC := Lib.hid sc
  have HIN := Lib.hid hin
  have HT0 := Lib.hid T0
  have HTS := Lib.hid TS
  have HG0 := Lib.hid G0
  have HGS := Lib.hid GS
  have HGL := Lib.hid GL
  clear sc hin T0 TS G0 GS GL hG hT hkk
  have hb0 := Blk.new w #[.int .i64 (f 0), .int .i64 (f 1), .int .i64 (f 2), .int .i64 (f 3), .int .i64 (f 4), .int .i64 (f 5), .int .i64 (f 6)] 47
  have HM0 := Lib.hid ((Mod.refl w []).alloc (.cells #[.int .i64 (f 0), .int .i64 (f 1), .int .i64 (f 2), .int .i64 (f 3), .int .i64 (f 4), .int .i64 (f 5), .int .i64 (f 6)] 47))
  obtain ⟨w0, hw0⟩ : ∃ w0, w0 = w.alloc (.cells #[.int .i64 (f 0), .int .i64 (f 1), .int .i64 (f 2), .int .i64 (f 3), .int .i64 (f 4), .int .i64 (f 5), .int .i64 (f 6)] 47) := ⟨_, rfl⟩
  rw [← hw0] at hb0 HM0
  have hbl := hb0.lt
  have HB0 := Lib.hid hb0
  have HW0 := Lib.hid hw0
  clear hb0 hw0
  go_enter Try.func30, Try.ntmps30
  go_wp2_with fail
  rw [← HW0.out]
  go_loopw [5, 6, 7] (fun vb vt vi wr => ∃ i : Nat, i ≤ 7 ∧ vi = .int .i64 (i : Int) ∧ vb = .int .i64 (T i).1 ∧ vt = .bool (T i).2 ∧ Mod w0 wr []) (fun _ _ vi _ => 8 - (intOf vi).toNat)
  case atStart => exact ⟨0, by omega, rfl, by rw [HT0.out], by rw [HT0.out], Mod.refl _ _⟩
  case round =>
    obtain ⟨i, hi, rfl, rfl, rfl, hmod⟩ := hrel
    have HM := Lib.hid hmod
    clear hmod
    by_cases hlt : i < 7
    · have hlt' : (i : Int) < 7 := by omega
      have HI := Lib.hid (HIN.out i hlt)
      have hts := HTS.out i
      cases hb : Co.hb k i
      · rw [hb] at HI
        rw [if_neg (by simp [hb])] at hts
        have HS := Lib.hid hts
        clear hts hb
        go_wp2_with fail
        refine (HC.out _ _).mono ?_
        rintro e w3 ⟨rfl, rfl⟩
        rw [HI.out]
        go_wp2_with fail
        go_roundw
        case rel => exact ⟨i + 1, by omega, by go_num, by rw [HS.out], by rw [HS.out], HM.out⟩
        case measure => simp [intOf]; omega
      · rw [hb] at HI
        have HS := Lib.hid (show T (i + 1) = if Co.hb k i = true ∧ c < 2 * G i 7 ∧ ((T i).2 = false ∨ (T i).1 < f i) then (f i, true) else T i from hts)
        have HBI := Lib.hid hb
        clear hts hb
        go_wp2_with fail
        refine (HC.out _ _).mono ?_
        rintro e w3 ⟨rfl, rfl⟩
        rw [HI.out]
        go_wp2_with fail
        go_loopw [8, 9] (fun vn vj wr => ∃ j : Nat, j ≤ 7 ∧ vj = .int .i64 (j : Int) ∧ vn = .int .i64 (G i j : Nat) ∧ Mod w0 wr []) (fun _ vj _ => 8 - (intOf vj).toNat)
        case atStart => exact ⟨0, by omega, rfl, by rw [HG0.out]; rfl, HM.out⟩
        case round =>
          obtain ⟨j, hj, rfl, rfl, hmod⟩ := hrel
          have HMj := Lib.hid hmod
          by_cases hjl : j < 7
          · have hjl' : (j : Int) < 7 := by omega
            have HJ := Lib.hid (HIN.out j hjl)
            have hgs := HGS.out i j
            have hgl := HGL.out i j
            have hbw := HB0.out.mod hmod (by simp)
            have hcj := cell_after hbw.lt (by rw [hbw.cell j, vals7_get f j hjl])
            have hci := cell_after hbw.lt (by rw [hbw.cell i, vals7_get f i hlt])
            clear hmod hbw
            generalize hfi : f i = y at *
            generalize hfj : f j = z at *
            generalize G i j = n at *
            cases hb : Co.hb k j
            · rw [hb] at HJ hgs
              rw [if_neg (by simp)] at hgs
              have H1 := Lib.hid hgs
              have HR : Hid (∀ w, Calls Try.prog 21 #[.int .i64 m, .int .i64 (j : Int)] w fun e w' => e = .returned (.bool false) ∧ w = w') := Lib.hid (fun w => by rw [← HJ.out]; exact HC.out _ w)
              clear hgs hb hfi hfj
              go_wp2_with fail
              (refine wp_region_quiet_after (by kernel_rfl) (by kernel_rfl) ?_; (repeat (go_big_quiet_step ((with_reducible refine after_same (HR.out _))))); refine wpQuiet_nil ?_; intro wq hw'; obtain ⟨⟨wq2, hmq⟩, hw''⟩ := hw'; subst hw'')
              have HQ := Lib.hid (HMj.out.trans0 hmq)
              clear hmq
              go_wp2_with fail
              go_roundw
              case rel => exact ⟨j + 1, by omega, by go_num, by rw [H1.out], HQ.out⟩
              case measure => simp [intOf]; omega
            · rw [hb] at HJ hgs
              have HR : Hid (∀ w, Calls Try.prog 21 #[.int .i64 m, .int .i64 (j : Int)] w fun e w' => e = .returned (.bool true) ∧ w = w') := Lib.hid (fun w => by rw [← HJ.out]; exact HC.out _ w)
              by_cases hyz : y ≤ z
              · rw [if_pos (by simp [hyz])] at hgs
                have H1 := Lib.hid hgs
                clear hgs hb hfi hfj
                go_wp2_with fail
                (refine wp_region_quiet_after (by kernel_rfl) (by kernel_rfl) ?_; (repeat (go_big_quiet_step ((with_reducible refine after_same (HR.out _))))); refine wpQuiet_nil ?_; intro wq hw'; obtain ⟨⟨wq2, hmq⟩, hw''⟩ := hw'; subst hw'')
                have HQ := Lib.hid (HMj.out.trans0 hmq)
                clear hmq
                go_wp2_with fail
                go_roundw
                case rel => exact ⟨j + 1, by omega, by go_num, by rw [H1.out]; go_num, HQ.out⟩
                case measure => simp [intOf]; omega
              · rw [if_neg (by simp; omega)] at hgs
                have hyz' : z < y := by omega
                have hyd : decide (y ≤ z) = false := by simp; omega
                have H1 := Lib.hid hgs
                clear hgs hb hfi hfj hyz
                go_wp2_with fail
                (refine wp_region_quiet_after (by kernel_rfl) (by kernel_rfl) ?_; (repeat (go_big_quiet_step ((with_reducible refine after_same (HR.out _))))); refine wpQuiet_nil ?_; intro wq hw'; obtain ⟨⟨wq2, hmq⟩, hw''⟩ := hw'; subst hw'')
                have HQ := Lib.hid (HMj.out.trans0 hmq)
                clear hmq
                go_wp2_with fail
                go_roundw
                case rel => exact ⟨j + 1, by omega, by go_num, by rw [H1.out], HQ.out⟩
                case measure => simp [intOf]; omega
          · obtain rfl : j = 7 := by omega
            have hbw := HB0.out.mod hmod (by simp)
            have hci : _ = some (Value.int .i64 (f i)) := (hbw.cell i).trans (vals7_get f i hlt)
            clear hmod hbw
            have hgl := HGL.out i 7
            have hs := HS.out
            obtain ⟨⟨bv, bt⟩, hTi⟩ : ∃ q, T i = q := ⟨_, rfl⟩
            have H3 := Lib.hid hTi
            rw [hTi] at hs
            simp only [HBI.out, true_and] at hs
            rw [hTi]
            generalize hn : G i 7 = n at *
            generalize hfi : f i = y at *
            by_cases z1 : c < 2 * n
            · cases bt
              · rw [if_pos (by simp [z1])] at hs
                have H1 := Lib.hid hs
                clear hs hTi hn hfi
                go_wp2_with fail
                refine (SC.out _).mono ?_
                rintro e w4 ⟨rfl, rfl⟩
                go_wp2_with fail
                go_roundw
                case rel => exact ⟨i + 1, by omega, by go_num, by rw [H1.out], by rw [H1.out], HMj.out⟩
                case measure => simp [intOf]; omega
              · by_cases z2 : bv < y
                · rw [if_pos (by simp [z1, z2])] at hs
                  have H1 := Lib.hid hs
                  clear hs hTi hn hfi
                  go_wp2_with fail
                  refine (SC.out _).mono ?_
                  rintro e w4 ⟨rfl, rfl⟩
                  go_wp2_with fail
                  go_roundw
                  case rel => exact ⟨i + 1, by omega, by go_num, by rw [H1.out], by rw [H1.out], HMj.out⟩
                  case measure => simp [intOf]; omega
                · rw [if_neg (by simp; omega)] at hs
                  have H1 := Lib.hid hs
                  clear hs hTi hn hfi
                  go_wp2_with fail
                  refine (SC.out _).mono ?_
                  rintro e w4 ⟨rfl, rfl⟩
                  go_wp2_with fail
                  go_roundw
                  case rel => exact ⟨i + 1, by omega, by go_num, by rw [H1.out], by rw [H1.out], HMj.out⟩
                  case measure => simp [intOf]; omega
            · rw [if_neg (by simp; omega)] at hs
              have H1 := Lib.hid hs
              clear hs hTi hn hfi
              go_wp2_with fail
              refine (SC.out _).mono ?_
              rintro e w4 ⟨rfl, rfl⟩
              go_wp2_with fail
              go_roundw
              case rel => exact ⟨i + 1, by omega, by go_num, by rw [H1.out], by rw [H1.out], HMj.out⟩
              case measure => simp [intOf]; omega
    · obtain rfl : i = 7 := by omega
      go_wp2_with fail
      go_ret
      exact ⟨rfl, HM0.out.trans0 HM.out⟩

set_option maxHeartbeats 1000000 in
theorem reaches_calls (a b : Int) (f : Nat → Int) (w : World) :
    Calls Try.prog 6 #[.int .i64 a, .int .i64 b, vals7 f] w fun e w' => e = .returned (.bool true) ∧ Below w.heap.size w w' := by
  have NC := Lib.hid (fun w => near_calls a b w)
  have RN := Lib.hid (fun w => refnear_calls a b w)
  have RC := Lib.hid (fun w => reached_calls a f w)
  have RR := Lib.hid (fun w => refreached_calls a f w)
  have AW := Lib.hid awake_calls
  generalize Co.nearB a b = N at *
  generalize reachL ((Co.nodesL (Co.kn a)).map f) = x at *
  have hb0 := Blk.new w #[.int .i64 (f 0), .int .i64 (f 1), .int .i64 (f 2), .int .i64 (f 3), .int .i64 (f 4), .int .i64 (f 5), .int .i64 (f 6)] 47
  have hy0 := cell_after hb0.lt (hb0.cell 0)
  have hy1 := cell_after hb0.lt (hb0.cell 1)
  have hy2 := cell_after hb0.lt (hb0.cell 2)
  have hy3 := cell_after hb0.lt (hb0.cell 3)
  have hy4 := cell_after hb0.lt (hb0.cell 4)
  have hy5 := cell_after hb0.lt (hb0.cell 5)
  have hy6 := cell_after hb0.lt (hb0.cell 6)
  simp at hy0 hy1 hy2 hy3 hy4 hy5 hy6
  have HM0 := Lib.hid ((Mod.refl w []).alloc (.cells #[.int .i64 (f 0), .int .i64 (f 1), .int .i64 (f 2), .int .i64 (f 3), .int .i64 (f 4), .int .i64 (f 5), .int .i64 (f 6)] 47))
  clear hb0
  go_enter Try.func6, Try.ntmps6
  go_wp2_with fail
  (refine wp_region_quiet_after (by kernel_rfl) (by kernel_rfl) ?_; (repeat (go_big_quiet_step (first | (go_at_call 22; with_reducible refine after_of (AW.out _)) | (go_at_call 27; with_reducible refine after_of (NC.out _)) | (go_at_call 28; with_reducible refine after_same (RN.out _)) | (go_at_call 29; with_reducible refine after_of (RC.out _)) | (go_at_call 30; with_reducible refine after_of (RR.out _))))); refine wpQuiet_nil ?_; intro wq hw'; obtain ⟨⟨wq2, hmq⟩, hw''⟩ := hw'; subst hw'')
  have HQ := Lib.hid (HM0.out.trans0 hmq)
  clear hmq
  go_wp2_with fail
  go_ret
  exact ⟨ret_bool (by first | rfl | simp), HQ.out.below0⟩

theorem councilReaches_calls (w : World) (a : Int) (ha : (Lit.int .i64 a).wf = true) (b : Int) (hb : (Lit.int .i64 b).wf = true) (f : Nat → Int) (_ : ∀ i, i < 7 → (Lit.int .i64 (f i)).wf = true) :
    Calls Try.prog 6 #[.int .i64 a, .int .i64 b, vals7 f] w fun e w' => e = .returned (.bool true) ∧ Below w.heap.size w w' := reaches_calls a b f w
end Go.Proofs.Ytkgedgihjmhogaa.Council
