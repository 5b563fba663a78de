/- The contract of the reference's Write. -/
import Derived.Test.YtcbafomhifdgpaaKe5
namespace Go.Proofs.Ytcbafomhifdgpaa.Ke
open Go.RowKit Mem Bits
set_option linter.unusedSimpArgs false
set_option linter.unusedVariables false
set_option maxRecDepth 100000

set_option maxHeartbeats 8000000 in
theorem rwrite_calls (t : Trk) (v : Value) (ht : TrkOK t) (hp : ∀ r ∈ t.rs, r.ps.length ≤ 140737488351232) (hlen : t.rs.length ≤ 140737488351232) (w : World) (h : RunsAt w v t.rs) :
    Calls Try.prog 15 #[trkV t v] w fun e w' => e = .returned (.tuple #[.string (outT t), .int .i64 (errT t)]) ∧ Mod w w' [] := by
  have HB0 := Lib.hid (Blk.new w #[.int .i64 t.c, .int .i64 t.st, .int .i64 t.lo, v] 34)
  have HM0 := Lib.hid ((Mod.refl w []).alloc (.cells #[.int .i64 t.c, .int .i64 t.st, .int .i64 t.lo, v] 34))
  have HI0 := Lib.hid (h.mod HM0.out)
  have MC := Lib.hid (fun w h => rmay_calls t v ht hp hlen w h)
  obtain ⟨sa, cap, rfl, -⟩ := h.shape
  cases hB : trkB t
  · have e1 : outT t = ⟨#[]⟩ := by unfold outT; rw [if_neg (by simp [hB])]
    have e2 : errT t = 1 := by unfold errT; rw [if_neg (by simp [hB])]
    rw [e1, e2]
    rw [hB] at MC
    clear e1 e2 hB ht hp h
    go_enter Try.func15, Try.ntmps15
    go_wp2_with fail
    (with_reducible refine (MC.out _ ?_).mono ?_)
    · exact HI0.out
    rintro e w1 ⟨rfl, hm1⟩
    have HM1 := Lib.hid (HM0.out.trans0 hm1)
    clear hm1
    go_wp2_with fail
    go_ret2
    exact ⟨rfl, HM1.out⟩
  · have e1 : outT t = textT t := by unfold outT; rw [if_pos hB]
    have e2 : errT t = 0 := by unfold errT; rw [if_pos hB]
    rw [e1, e2]
    rw [hB] at MC
    obtain ⟨⟨c0, c1⟩, ⟨l0, l1⟩, s0, hn, hP⟩ := trk_parts hB
    have hst := ht.st.2
    have hn' : (t.rs.length : Int) ≤ 64 := by omega
    have HTX : Hid (trkT t t.rs.length = textT t) := Lib.hid rfl
    have HOK := Lib.hid ht.rs
    have HP := Lib.hid hP
    have HSZ := Lib.hid (trkT_size t hP)
    have HSUCC := Lib.hid (trkT_succ t)
    have H0 : Hid (((numI t.c ++ numI t.st) ++ numI t.lo) ++ numI t.rs.length = trkT t 0) := Lib.hid rfl
    have N1 := Lib.hid (fun w => rnum_calls t.c c0 (by omega) w)
    have N2 := Lib.hid (fun w => rnum_calls t.st s0 hst w)
    have N3 := Lib.hid (fun w => rnum_calls t.lo l0 (by omega) w)
    have N4 := Lib.hid (fun w => rnum_calls (t.rs.length : Int) (by omega) (by omega) w)
    have z1 := (numI_size t.c).2
    have z2 := (numI_size t.st).2
    have z3 := (numI_size t.lo).2
    have z4 := (numI_size t.rs.length).2
    generalize numI t.c = A1 at *
    generalize numI t.st = A2 at *
    generalize numI t.lo = A3 at *
    generalize numI t.rs.length = A4 at *
    have y1 : (A1.size : Int) + (A2.size : Int) ≤ 1000 := by omega
    have y2 : (A1.size : Int) + (A2.size : Int) + (A3.size : Int) ≤ 1000 := by omega
    have y3 : (A1.size : Int) + (A2.size : Int) + (A3.size : Int) + (A4.size : Int) ≤ 1000 := by omega
    clear e1 e2 hB ht hp h hP
    go_enter Try.func15, Try.ntmps15
    go_wp2_with fail
    (with_reducible refine (MC.out _ ?_).mono ?_)
    · exact HI0.out
    rintro e w1 ⟨rfl, hm1⟩
    have HM1 := Lib.hid (HM0.out.trans0 hm1)
    have HB1 := Lib.hid (HB0.out.mod hm1 (by simp))
    have HI1 := Lib.hid (HI0.out.mod hm1)
    obtain ⟨b0, b1, b2, b3⟩ := Blk4A HB1.out
    clear hm1 HB0 HI0 HM0
    go_wp2_with fail
    (refine wp_region_quiet_after (by kernel_rfl) (by kernel_rfl) ?_; (repeat (go_big_quiet_step ((first | (with_reducible refine after_of (N1.out _)) | (with_reducible refine after_of (N2.out _)) | (with_reducible refine after_of (N3.out _)) | (with_reducible refine after_of (N4.out _)))))); refine wpQuiet_nil ?_; intro wq hw'; obtain ⟨⟨wq2, hmq⟩, hw''⟩ := hw'; subst hw'')
    rw [H0.out]
    have HM2 := Lib.hid (HM1.out.trans0 hmq)
    have HB2 := Lib.hid (HB1.out.mod hmq (by simp))
    have HI2 := Lib.hid (HI1.out.mod hmq)
    clear hmq HM1 HB1 HI1 b0 b1 b2 b3 N1 N2 N3 N4 H0 y1 y2 y3 z1 z2 z3 z4
    go_wp2_with fail
    obtain ⟨w2, rfl⟩ : ∃ w2 : World, w2 = wq := ⟨_, rfl⟩
    go_loopw [4, 5] (fun vs vi wr => ∃ i : Nat, i ≤ t.rs.length ∧ vi = .int .i64 (i : Int) ∧ vs = .string (trkT t i) ∧ Mod w2 wr []) (fun _ vi _ => t.rs.length + 1 - (intOf vi).toNat)
    case atStart => exact ⟨0, Nat.zero_le _, rfl, rfl, Mod.refl _ _⟩
    case round =>
      obtain ⟨i, hi, rfl, rfl, hm⟩ := hrel
      have HM := Lib.hid hm
      obtain ⟨b0, b1, b2, b3⟩ := Blk4c (HB2.out.mod hm (by simp))
      clear hm
      by_cases hlt : i < t.rs.length
      · have hlt' : (i : Int) < t.rs.length := by omega
        obtain ⟨bb, off, hsa, hcap, hcm, hc⟩ : ∃ bb off, sa = some ⟨bb, off, none⟩ ∧ t.rs.length ≤ cap ∧ cap ≤ maxLen ∧ ∀ i (hi : i < t.rs.length), RunC w2 bb (off + i * 5) t.rs[i] := by
          obtain ⟨a', cap', e1, e2⟩ := HI2.out.shape
          obtain ⟨bb, off, e3, e4, e5, e6⟩ := e2 (by intro h; rw [h] at hlt; simp at hlt)
          injection e1 with e7 e8 e9
          subst e7 e9
          exact ⟨bb, off, e3, e4, e5, e6⟩
        subst hsa
        have hci := (hc i hlt).mod HM.out
        have hPi := HP.out _ (List.getElem_mem hlt)
        have hOi := HOK.out _ (List.getElem_mem hlt)
        have HS := Lib.hid (HSUCC.out i hlt)
        have hsz := HSZ.out i (by omega)
        generalize t.rs[i]'hlt = r at *
        generalize trkT t i = T at *
        obtain ⟨d0, d1, d2, d3, pv, d4, d5⟩ := hci
        obtain ⟨sp, cp, rfl, hsp⟩ := d5.shape
        have hpn := hPi.n1
        have hpn0 := hPi.n0
        obtain ⟨pb, po, rfl, hpcap, hpcm, hpc⟩ := hsp (by intro h; rw [h] at hpn0; simp at hpn0)
        have HPC := Lib.hid hpc
        have HV := Lib.hid (run_vals hPi)
        have HRI := Lib.hid ((risB_iff _).1 hPi.ris)
        have hpn' : (r.ps.length : Int) ≤ 15 := by omega
        have hpn0' : 1 ≤ (r.ps.length : Int) := by omega
        have HBX := Lib.hid (Blk.new wr #[.int .i64 r.b, .int .i64 r.st, .int .i64 r.s, .int .u64 r.seen, .slice (some ⟨pb, po, none⟩) r.ps.length cp] 86)
        have HMa := Lib.hid ((Mod.refl wr []).alloc (.cells #[.int .i64 r.b, .int .i64 r.st, .int .i64 r.s, .int .u64 r.seen, .slice (some ⟨pb, po, none⟩) r.ps.length cp] 86))
        have HRS : Hid (((((T ++ numI r.b) ++ numI r.st) ++ numI r.s) ++ Bt.numS r.seen) ++ numI r.ps.length = runS T r) := Lib.hid rfl
        have hrs := runS_size T r
        have N1 := Lib.hid (fun w => rnum_calls r.b hPi.b0 hOi.b.2 w)
        have N2 := Lib.hid (fun w => rnum_calls r.st hPi.st hOi.st.2 w)
        have N3 := Lib.hid (fun w => rnum_calls r.s hPi.s0 hOi.s.2 w)
        have N4 := Lib.hid (fun w => refnum_calls r.seen hOi.seen w)
        have N5 := Lib.hid (fun w => rnum_calls (r.ps.length : Int) (by omega) (by omega) w)
        have z1 := (numI_size r.b).2
        have z2 := (numI_size r.st).2
        have z3 := (numI_size r.s).2
        have z4 := Bt.numS_size_le r.seen
        have z5 := (numI_size r.ps.length).2
        generalize numI r.b = A1 at *
        generalize numI r.st = A2 at *
        generalize numI r.s = A3 at *
        generalize Bt.numS r.seen = A4 at *
        generalize numI r.ps.length = A5 at *
        have y1 : (T.size : Int) + (A1.size : Int) ≤ 1000000 := by omega
        have y2 : (T.size : Int) + (A1.size : Int) + (A2.size : Int) ≤ 1000000 := by omega
        have y3 : (T.size : Int) + (A1.size : Int) + (A2.size : Int) + (A3.size : Int) ≤ 1000000 := by omega
        have y4 : (T.size : Int) + (A1.size : Int) + (A2.size : Int) + (A3.size : Int) + (A4.size : Int) ≤ 1000000 := by omega
        have y5 : (T.size : Int) + (A1.size : Int) + (A2.size : Int) + (A3.size : Int) + (A4.size : Int) + (A5.size : Int) ≤ 1000000 := by omega
        clear hpc hsp hc d5 hPi hOi
        go_wp2_with fail
        generalize wr.alloc _ = V at HBX HMa ⊢
        obtain ⟨a0, a1, a2, a3, a4⟩ := Blk5A HBX.out
        (refine wp_region_quiet_after (by kernel_rfl) (by kernel_rfl) ?_; (repeat (go_big_quiet_step ((first | (with_reducible refine after_of (N1.out _)) | (with_reducible refine after_of (N2.out _)) | (with_reducible refine after_of (N3.out _)) | (with_reducible refine after_of (N4.out _)) | (with_reducible refine after_of (N5.out _)))))); refine wpQuiet_nil ?_; intro wq hw'; obtain ⟨⟨wq2, hmq⟩, hw''⟩ := hw'; subst hw'')
        rw [HRS.out]
        go_wp2_with fail
        have HBq := Lib.hid (HBX.out.mod hmq (by simp))
        have HMq := Lib.hid ((HM.out.trans0 HMa.out).trans0 hmq)
        have HCq := Lib.hid (fun j hj => keepC (HMa.out.trans0 hmq) (HPC.out j hj))
        clear hmq a0 a1 a2 a3 a4 d0 d1 d2 d3 d4 b0 b1 b2 b3 N1 N2 N3 N4 N5 y1 y2 y3 y4 y5 z1 z2 z3 z4 z5 HRS HPC HBX
        obtain ⟨wo, rfl⟩ : ∃ wo : World, wo = wr := ⟨_, rfl⟩
        go_loopw [4, 7] (fun vs vk wr => ∃ k : Nat, 1 ≤ k ∧ k ≤ r.ps.length ∧ vk = .int .i64 (k : Int) ∧ vs = .string (difS r.ps (k - 1) (runS T r)) ∧ Mod wq wr []) (fun _ vk _ => r.ps.length + 1 - (intOf vk).toNat)
        case atStart => exact ⟨1, Nat.le_refl _, by omega, rfl, rfl, Mod.refl _ _⟩
        case round =>
          obtain ⟨k, hk1, hk, rfl, rfl, hm2⟩ := hrel
          have HM2' := Lib.hid hm2
          obtain ⟨y0, y1, y2, y3, y4⟩ := Blk5c (HBq.out.mod hm2 (by simp))
          clear hm2
          by_cases hkl : k < r.ps.length
          · have hkl' : (k : Int) < r.ps.length := by omega
            have g1 := keepC HM2'.out (HCq.out k hkl)
            have g0 := keepC HM2'.out (HCq.out (k - 1) (by omega))
            rw [← gi_get (by omega)] at g1 g0
            have z1 := cell_after (cell_lt g1) g1
            have z0 := cell_after (cell_lt g0) g0
            have z4 := cell_after (cell_lt y4) y4
            have hix : ((k : Int) - 1).toNat = k - 1 := by omega
            have hwx : IntKind.i64.wrap ((k : Int) - 1) = (k : Int) - 1 := IntWalk.i64_in _ (by omega)
            have hpx : 0 ≤ (k : Int) - 1 := by omega
            have hk0 : 0 ≤ (k : Int) := by omega
            have hkx : (k : Int) - 1 < r.ps.length := by omega
            have v1 := HV.out k (by omega)
            have v0 := HV.out (k - 1) (by omega)
            have v2 := HRI.out (k - 1) (by omega)
            have HDS := Lib.hid (show difS r.ps (k - 1) (runS T r) ++ numI (gi r.ps k - gi r.ps (k - 1) - 1) = difS r.ps k (runS T r) by
              have := difS_put r.ps (k - 1) (runS T r)
              rw [show k - 1 + 1 = k by omega] at this v2
              exact this)
            rw [show k - 1 + 1 = k by omega] at v2
            have hds := difS_size r.ps (k - 1) (runS T r)
            have NC := Lib.hid (fun w => rnum_calls (gi r.ps k - gi r.ps (k - 1) - 1) (by omega) (by omega) w)
            have hnz := (numI_size (gi r.ps k - gi r.ps (k - 1) - 1)).2
            generalize difS r.ps (k - 1) (runS T r) = D at *
            generalize numI (gi r.ps k - gi r.ps (k - 1) - 1) = X at *
            generalize gi r.ps k = a at *
            generalize gi r.ps (k - 1) = b at *
            obtain ⟨v10, v11⟩ := v1
            obtain ⟨v00, v01⟩ := v0
            have hw1 : IntKind.i64.wrap (a - b) = a - b := IntWalk.i64_in _ (by omega)
            have hw2 : IntKind.i64.wrap (a - b - 1) = a - b - 1 := IntWalk.i64_in _ (by omega)
            have hzz : (D.size : Int) + (X.size : Int) ≤ 1000000 := by omega
            go_wp2_with fail
            (refine wp_region_quiet_after (by kernel_rfl) (by kernel_rfl) ?_; (repeat (go_big_quiet_step ((with_reducible refine after_of (NC.out _))))); refine wpQuiet_nil ?_; intro wq hw'; obtain ⟨⟨wq2, hmq⟩, hw''⟩ := hw'; subst hw'')
            have HMz := Lib.hid (HM2'.out.trans0 hmq)
            clear hmq
            rw [HDS.out]
            go_wp2_with fail
            go_roundw
            case rel => exact ⟨k + 1, by omega, by omega, by go_num, by rw [Nat.add_sub_cancel], HMz.out⟩
            case measure => simp [intOf]; omega
          · have hge : (r.ps.length : Int) ≤ k := by omega
            have hkk : k = r.ps.length := by omega
            have HX : Hid (difS r.ps (k - 1) (runS T r) = trkT t (i + 1)) := Lib.hid (by rw [HS.out, hkk]; rfl)
            have HMz := Lib.hid (HMq.out.trans0 HM2'.out)
            rw [HX.out]
            clear hkk HX
            go_wp2_with fail
            go_roundw
            case rel => exact ⟨i + 1, by omega, by go_num, rfl, HMz.out⟩
            case measure => simp [intOf]; omega
      · have hge : (t.rs.length : Int) ≤ i := by omega
        have hii : i = t.rs.length := by omega
        have HX : Hid (trkT t i = textT t) := Lib.hid (by rw [hii]; exact HTX.out)
        rw [HX.out]
        clear hii
        go_wp2_with fail
        go_ret2
        exact ⟨rfl, HM2.out.trans0 HM.out⟩
end Go.Proofs.Ytcbafomhifdgpaa.Ke
