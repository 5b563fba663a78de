/- The contract of keep.Write. -/
import Derived.Test.YtcbafomhifdgpaaKe3
namespace Go.Proofs.Ytcbafomhifdgpaa.Ke
open Go.RowKit Mem Bits
set_option linter.unusedSimpArgs false
set_option linter.unusedVariables false
set_option maxRecDepth 100000

def outT (t : Trk) : ByteArray := if trkB t = true then textT t else ⟨#[]⟩
def errT (t : Trk) : Int := if trkB t = true then 0 else 1

theorem trk_parts {t : Trk} (h : trkB t = true) : (0 ≤ t.c ∧ t.c ≤ 549755813888) ∧ (0 ≤ t.lo ∧ t.lo ≤ 549755813888) ∧ 0 ≤ t.st ∧ t.rs.length ≤ 64 ∧ ∀ r ∈ t.rs, RunP r := by
  unfold trkB at h
  simp only [Bool.and_eq_true, decide_eq_true_eq] at h
  exact ⟨h.1.1, h.1.2, h.2.1, h.2.2.1, fun r hr => of_decide_eq_true (List.all_eq_true.1 h.2.2.2 r hr)⟩

set_option maxHeartbeats 4000000 in
theorem write_calls (t : Trk) (v : Value) (ht : TrkOK t) (hp : ∀ r ∈ t.rs, r.ps.length ≤ 140737488351232) (hlen : t.rs.length ≤ 140737488351232) (w : World) (h : RunsAt w v t.rs) :
    Calls Try.prog 14 #[trkV t v] w fun e w' => e = .returned (.tuple #[.string (outT t), .int .i64 (errT t)]) ∧ Mod w w' [] := by
  have HB0 := Lib.hid (Blk.new w #[.int .i64 t.c, .int .i64 t.st, .int .i64 t.lo, v] 24)
  have HM0 := Lib.hid ((Mod.refl w []).alloc (.cells #[.int .i64 t.c, .int .i64 t.st, .int .i64 t.lo, v] 24))
  have HI0 := Lib.hid (h.mod HM0.out)
  have MC := Lib.hid (fun w h => may_calls t v ht hp hlen w h)
  obtain ⟨sa, cap, rfl, -⟩ := h.shape
  cases hB : trkB t
  · have e1 : outT t = ⟨#[]⟩ := by unfold outT; rw [if_neg (by simp [hB])]
    have e2 : errT t = 1 := by unfold errT; rw [if_neg (by simp [hB])]
    rw [e1, e2]
    rw [hB] at MC
    clear e1 e2 hB ht hp h
    go_enter Try.func14, Try.ntmps14
    go_wp2_with fail
    (with_reducible refine (MC.out _ ?_).mono ?_)
    · exact HI0.out
    rintro e w1 ⟨rfl, hm1⟩
    have HM1 := Lib.hid (HM0.out.trans0 hm1)
    clear hm1
    go_wp2_with fail
    go_ret2
    exact ⟨rfl, HM1.out⟩
  · have e1 : outT t = textT t := by unfold outT; rw [if_pos hB]
    have e2 : errT t = 0 := by unfold errT; rw [if_pos hB]
    rw [e1, e2]
    rw [hB] at MC
    obtain ⟨⟨c0, c1⟩, ⟨l0, l1⟩, s0, hn, hP⟩ := trk_parts hB
    have hst := ht.st.2
    have hn' : (t.rs.length : Int) ≤ 64 := by omega
    have HHD := Lib.hid (headT_put t)
    have HR0 := Lib.hid h
    have HTX : Hid (trkT t t.rs.length = textT t) := Lib.hid rfl
    have HOK := Lib.hid ht.rs
    have HP := Lib.hid hP
    have HSZ := Lib.hid (trkT_size t hP)
    have HPOS := Lib.hid (trkT_pos t)
    have HSUCC := Lib.hid (trkT_succ t)
    have H0 : Hid (trkT t 0 = headT t) := Lib.hid rfl
    clear e1 e2 hB ht hp h hP
    go_enter Try.func14, Try.ntmps14
    go_wp2_with fail
    (with_reducible refine (MC.out _ ?_).mono ?_)
    · exact HI0.out
    rintro e w1 ⟨rfl, hm1⟩
    have HM1 := Lib.hid (HM0.out.trans0 hm1)
    have HB1 := Lib.hid (HB0.out.mod hm1 (by simp))
    have hz1 : w.heap.size < w1.heap.size := HB1.out.lt
    obtain ⟨b0, b1, b2, b3⟩ := Blk4c HB1.out
    clear hm1 HB0 HI0
    go_wp2_with fail
    have hw0 : (w1.alloc (.cells #[.pointer none, .slice none 0 0] Sb.tB)).heap.size = w1.heap.size + 1 := by simp
    have HA : Hid (AtS ((w1.alloc (.cells #[.pointer none, .slice none 0 0] Sb.tB)).alloc (.cells #[.int .i64 t.c, .int .i64 t.st, .int .i64 t.lo, .int .i64 t.rs.length] 3)) w.heap.size w1.heap.size ⟨#[]⟩) :=
      Lib.hid (Sb.at_mod (.inl ⟨Nat.le_of_lt hz1, .slice none 0 0, Blk.new w1 _ _, World.ownsRow_nil _ _ _ _, by simp [Value.ownBlock]⟩) ((Mod.refl _ []).alloc _))
    have hk := Blk.new (w1.alloc (.cells #[.pointer none, .slice none 0 0] Sb.tB)) #[.int .i64 t.c, .int .i64 t.st, .int .i64 t.lo, .int .i64 t.rs.length] 3
    rw [hw0] at hk
    have HK := Lib.hid hk
    have HM2 := Lib.hid ((HM1.out.alloc (.cells #[.pointer none, .slice none 0 0] Sb.tB)).alloc (.cells #[.int .i64 t.c, .int .i64 t.st, .int .i64 t.lo, .int .i64 t.rs.length] 3))
    have HB2 := Lib.hid ((HB1.out.alloc (.cells #[.pointer none, .slice none 0 0] Sb.tB)).alloc (.cells #[.int .i64 t.c, .int .i64 t.st, .int .i64 t.lo, .int .i64 t.rs.length] 3))
    have PC := Lib.hid (put_calls w.heap.size w1.heap.size (w1.heap.size + 1) 4 ⟨#[]⟩ [t.c, t.st, t.lo, (t.rs.length : Int)] _ (by intro x hx; simp at hx; omega) (by show 0 + 4 * 9 ≤ _; omega) (by show 4 ≤ 1000; omega) (by simp; omega) HA.out HK.out (by omega) rfl)
    clear hk
    (with_reducible refine PC.out.mono ?_)
    rintro e w2 ⟨rfl, ha2, hw2⟩
    rw [HHD.out, ← H0.out] at ha2
    have HA2 := Lib.hid ha2
    have HL2 := Lib.hid ((HM2.out.below0).trans hw2.below)
    obtain ⟨b0, b1, b2, b3⟩ := Blk4c (hw2.keep _ _ _ HB2.out (by decide) (by omega))
    have hz2 := Sb.at_lt ha2
    clear ha2 hw2 HA HK HM2 HB2 PC
    go_wp2_with fail
    go_loopw [29] (fun vi wr => ∃ i : Nat, i ≤ t.rs.length ∧ vi = .int .i64 (i : Int) ∧ AtS wr w.heap.size w1.heap.size (trkT t i) ∧ Below w.heap.size w wr) (fun vi _ => t.rs.length + 1 - (intOf vi).toNat)
    case atStart => exact ⟨0, Nat.zero_le _, rfl, HA2.out, HL2.out⟩
    case round =>
      obtain ⟨i, hi, rfl, hat, hbl⟩ := hrel
      have HA := Lib.hid hat
      have HL := Lib.hid hbl
      have hzr := Sb.at_lt hat
      clear hat hbl HA2 HL2
      by_cases hlt : i < t.rs.length
      · have hlt' : (i : Int) < t.rs.length := by omega
        obtain ⟨bb, off, hsa, hcap, hcm, hc⟩ : ∃ bb off, sa = some ⟨bb, off, none⟩ ∧ t.rs.length ≤ cap ∧ cap ≤ maxLen ∧ ∀ i (hi : i < t.rs.length), RunC w bb (off + i * 5) t.rs[i] := by
          obtain ⟨a', cap', e1, e2⟩ := HR0.out.shape
          obtain ⟨bb, off, e3, e4, e5, e6⟩ := e2 (by intro h; rw [h] at hlt; simp at hlt)
          injection e1 with e7 e8 e9
          subst e7 e9
          exact ⟨bb, off, e3, e4, e5, e6⟩
        subst hsa
        have hci := hc i hlt
        have hmw := Mod.of_below HL.out
        have hPi := HP.out _ (List.getElem_mem hlt)
        have hOi := HOK.out _ (List.getElem_mem hlt)
        have HS := Lib.hid (HSUCC.out i hlt)
        have hsz := HSZ.out i (by omega)
        generalize t.rs[i]'hlt = r at *
        generalize trkT t i = T at *
        obtain ⟨e0, e1, e2, e3, pv, e4, d5⟩ := hci
        have d0 := keepC hmw e0
        have d1 := keepC hmw e1
        have d2 := keepC hmw e2
        have d3 := keepC hmw e3
        have d4 := keepC hmw e4
        clear e0 e1 e2 e3 e4 hmw
        obtain ⟨sp, cp, rfl, hsp⟩ := d5.shape
        have HD5 := Lib.hid d5
        clear d5 hc
        go_wp2_with fail
        have hps := hOi.ps
        have hBox := Blk.new wr #[.int .i64 r.b, .int .i64 r.st, .int .i64 r.s, .int .u64 r.seen, .slice sp r.ps.length cp] 73
        have hkk := Blk.new (wr.alloc (.cells #[.int .i64 r.b, .int .i64 r.st, .int .i64 r.s, .int .u64 r.seen, .slice sp r.ps.length cp] 73)) #[.int .i64 r.b, .int .i64 r.st, .int .i64 r.s] 3
        rw [World.size_alloc] at hkk
        have HBX := Lib.hid (hBox.alloc (.cells #[.int .i64 r.b, .int .i64 r.st, .int .i64 r.s] 3))
        have HM3 := Lib.hid (((Mod.refl wr []).alloc (.cells #[.int .i64 r.b, .int .i64 r.st, .int .i64 r.s, .int .u64 r.seen, .slice sp r.ps.length cp] 73)).alloc (.cells #[.int .i64 r.b, .int .i64 r.st, .int .i64 r.s] 3))
        have HA3 := Lib.hid (Sb.at_mod HA.out HM3.out)
        have hpn := hPi.n1
        have hpn0 := hPi.n0
        have PC1 := Lib.hid (put_calls w.heap.size w1.heap.size (wr.heap.size + 1) 3 T [r.b, r.st, r.s] _ (by intro x hx; have := hPi.b0; have := hPi.st; have := hPi.s0; have := hOi.b.2; have := hOi.st.2; have := hOi.s.2; simp at hx; omega) (by show T.size + 3 * 9 ≤ _; omega) (by show 3 ≤ 1000; omega) (by simp; omega) HA3.out hkk (by omega) rfl)
        clear hkk hBox HA
        (with_reducible refine PC1.out.mono ?_)
        rintro e w3 ⟨rfl, ha3, hw3⟩
        have HL3 := Lib.hid ((HL.out.trans (HM3.out.below (by omega) (by simp))).trans hw3.below)
        have HB3 := Lib.hid (hw3.keep _ _ _ HBX.out (by decide) (by omega))
        have HA4 := Lib.hid ha3
        have hs3 := hw3.below.size
        simp at hs3
        clear ha3 hw3 HBX HM3 HA3 PC1 HL
        obtain ⟨x0, x1, x2, x3, x4⟩ := Blk5c HB3.out
        have NC := Lib.hid (fun w => num_calls r.seen hOi.seen w)
        have hns := Bt.numS_size_le r.seen
        have hps3 := putS_size T [r.b, r.st, r.s]
        have HRS := Lib.hid (runS_put T r)
        have hrs := runS_size T r
        generalize putS T [r.b, r.st, r.s] = T1 at *
        generalize Bt.numS r.seen = N at *
        simp only [List.length_cons, List.length_nil] at hps3
        go_wp2_with fail
        (with_reducible refine (NC.out _).mono ?_)
        rintro e w4 ⟨rfl, hm4⟩
        have HA5 := Lib.hid (Sb.at_mod HA4.out hm4)
        have HB4 := Lib.hid (HB3.out.mod hm4 (by simp))
        have HL4 := Lib.hid (HL3.out.trans (hm4.below (by omega) (by simp)))
        have hs4 := hm4.size
        clear hm4 HA4 HB3 HL3
        have WC := Lib.hid (Sb.write_calls w.heap.size w1.heap.size (Lib.strCells T1) N _ HA5.out (by rw [Lib.strCells_length]; omega) (by omega))
        go_wp2_with fail
        (with_reducible refine WC.out.mono ?_)
        rintro e w5 ⟨rfl, ha5, hw5⟩
        have HA6 : Hid (AtS w5 w.heap.size w1.heap.size (T1 ++ N)) := Lib.hid (by unfold AtS; rw [strCells_app]; exact ha5)
        have HB5 := Lib.hid (hw5.keep _ _ _ HB4.out (by decide) (by omega))
        have HL5 := Lib.hid (HL4.out.trans hw5.below)
        have hs5 := hw5.below.size
        clear ha5 hw5 WC HA5 HB4 HL4 x0 x1 x2 x3 x4 NC
        obtain ⟨x0, x1, x2, x3, x4⟩ := Blk5c HB5.out
        go_wp2_with fail
        have HBX := Lib.hid (HB5.out.alloc (.cells #[.int .i64 r.ps.length] 3))
        have HM5 := Lib.hid ((Mod.refl w5 []).alloc (.cells #[.int .i64 r.ps.length] 3))
        have HA7 := Lib.hid (Sb.at_mod HA6.out HM5.out)
        have PC2 := Lib.hid (put_calls w.heap.size w1.heap.size w5.heap.size 1 (T1 ++ N) [(r.ps.length : Int)] _ (by intro x hx; simp at hx; omega) (by show (T1 ++ N).size + 1 * 9 ≤ _; rw [ByteArray.size_append]; omega) (by show 1 ≤ 1000; omega) (by simp; omega) HA7.out (Blk.new w5 _ _) (by omega) rfl)
        rw [HRS.out] at PC2
        (with_reducible refine PC2.out.mono ?_)
        rintro e w6 ⟨rfl, ha6, hw6⟩
        have HL6 := Lib.hid ((HL5.out.trans (HM5.out.below (by omega) (by simp))).trans hw6.below)
        have HB6 := Lib.hid (hw6.keep _ _ _ HBX.out (by decide) (by omega))
        have HA8 := Lib.hid ha6
        have hs6 := hw6.below.size
        simp at hs6
        clear ha6 hw6 HBX HM5 HA7 PC2 HL5 x0 x1 x2 x3 x4 HB5 HA6
        obtain ⟨x0, x1, x2, x3, x4⟩ := Blk5c HB6.out
        obtain ⟨pb, po, rfl, hpcap, hpcm, hpc⟩ := hsp (by intro h; rw [h] at hpn0; simp at hpn0)
        have HPC := Lib.hid hpc
        clear hpc
        have HV := Lib.hid (run_vals hPi)
        have HRI := Lib.hid ((risB_iff _).1 hPi.ris)
        have hpn' : (r.ps.length : Int) ≤ 15 := by omega
        have hpn0' : 1 ≤ (r.ps.length : Int) := by omega
        have hcp1 : 1 ≤ cp := by omega
        have hcp1' : (1 : Int) ≤ (cp : Int) := by omega
        have hcpm : (cp : Int) ≤ 9223372036854775807 := by unfold maxLen at hpcm; omega
        rcases (by omega : cp = 1 ∨ 2 ≤ cp) with hq | hq
        all_goals
          have hqb := hq
          go_wp2_with fail
          obtain ⟨wo, rfl⟩ : ∃ wo : World, wo = wr := ⟨_, rfl⟩
          go_loopw [56] (fun vk wr => ∃ k : Nat, k ≤ r.ps.length - 1 ∧ vk = .int .i64 (k : Int) ∧ AtS wr w.heap.size w1.heap.size (difS r.ps k (runS T r)) ∧ Below w.heap.size w wr ∧ Blk wr wo.heap.size #[.int .i64 r.b, .int .i64 r.st, .int .i64 r.s, .int .u64 r.seen, .slice (some ⟨pb, po, none⟩) r.ps.length cp] 73 ∧ wo.heap.size ≤ wr.heap.size) (fun vk _ => r.ps.length + 1 - (intOf vk).toNat)
          case atStart => exact ⟨0, Nat.zero_le _, rfl, HA8.out, HL6.out, HB6.out, by omega⟩
          case round =>
            obtain ⟨k, hk, rfl, hat, hbl, hbx, hsz9⟩ := hrel
            have HA := Lib.hid hat
            have HL := Lib.hid hbl
            have HB := Lib.hid hbx
            clear hat hbl hbx HA8 HL6 HB6 x0 x1 x2 x3 x4
            by_cases hkl : k < r.ps.length - 1
            · try (exfalso; omega)
              all_goals
                have hkl' : (k : Int) < ((r.ps.length - 1 : Nat) : Int) := by omega
                have g1 := keepC (Mod.of_below HL.out) (HPC.out (k + 1) (by omega))
                have g0 := keepC (Mod.of_below HL.out) (HPC.out k (by omega))
                rw [← gi_get (by omega)] at g1 g0
                rw [show po + (k + 1) = po + 1 + k by omega] at g1
                have v1 := HV.out (k + 1) (by omega)
                have v0 := HV.out k (by omega)
                have v2 := HRI.out k (by omega)
                have HDS := Lib.hid (difS_put r.ps k (runS T r))
                have hds := difS_size r.ps k (runS T r)
                have HHK := Lib.hid (fun k' h => keepC (Mod.of_below HL.out) (HPC.out k' h))
                obtain ⟨x0, x1, x2, x3, x4⟩ := Blk5c HB.out
                have hkn : (k : Int) < r.ps.length := by omega
                have hk1 : k < r.ps.length := by omega
                obtain ⟨D', hD'⟩ : ∃ D', D' = difS r.ps (k + 1) (runS T r) := ⟨_, rfl⟩
                rw [← hD'] at HDS
                have HD' := Lib.hid hD'
                clear hD'
                generalize difS r.ps k (runS T r) = D at *
                generalize gi r.ps (k + 1) = y1 at *
                generalize gi r.ps k = y0 at *
                obtain ⟨v10, v11⟩ := v1
                obtain ⟨v00, v01⟩ := v0
                go_wp2_with fail
                have HM5 := Lib.hid ((Mod.refl wr []).alloc (.cells #[.int .i64 (y1 - y0 - 1)] 3))
                have PC := Lib.hid (put_calls w.heap.size w1.heap.size wr.heap.size 1 D [y1 - y0 - 1] _ (by intro x hx; rw [List.mem_singleton] at hx; omega) (by show D.size + 1 * 9 ≤ _; omega) (by show 1 ≤ 1000; omega) (by simp; omega) (Sb.at_mod HA.out HM5.out) (Blk.new wr _ _) (by omega) rfl)
                rw [HDS.out] at PC
                (with_reducible refine PC.out.mono ?_)
                rintro e w7 ⟨rfl, ha7, hw7⟩
                have HA7 := Lib.hid ha7
                have HL7 := Lib.hid ((HL.out.trans (HM5.out.below (by omega) (by simp))).trans hw7.below)
                have HB7 := Lib.hid (hw7.keep _ _ _ (HB.out.alloc (.cells #[.int .i64 (y1 - y0 - 1)] 3)) (by decide) (by omega))
                have hs7 := hw7.below.size
                simp at hs7
                clear ha7 hw7 PC
                go_wp2_with fail
                go_roundw
                case rel => exact ⟨k + 1, by omega, by go_num, by rw [← HD'.out]; exact HA7.out, HL7.out, HB7.out, by omega⟩
                case measure => simp [intOf]; omega
            · have hge : ((r.ps.length - 1 : Nat) : Int) ≤ k := by omega
              have hkk : k = r.ps.length - 1 := by omega
              have HRT : Hid (difS r.ps k (runS T r) = runT T r) := Lib.hid (by rw [hkk]; rfl)
              have HAx : Hid (AtS wr w.heap.size w1.heap.size (trkT t (i + 1))) := Lib.hid (by rw [HS.out, ← HRT.out]; exact HA.out)
              clear hkk HRT HA
              go_wp2_with fail
              go_roundw
              case rel => exact ⟨i + 1, by omega, by go_num, HAx.out, HL.out⟩
              case measure => simp [intOf]; omega
      · have hge : (t.rs.length : Int) ≤ i := by omega
        have hii : i = t.rs.length := by omega
        subst hii
        have hne : (trkT t t.rs.length).data.toList ≠ [] := by
          intro h
          have := HPOS.out t.rs.length
          have h2 : (trkT t t.rs.length).data.toList.length = (trkT t t.rs.length).size := by simp
          rw [h] at h2
          simp at h2; omega
        have SC := Lib.hid (Sb.string_calls w.heap.size w1.heap.size _ _ HA.out hne)
        have HSS : Hid ((⟨(trkT t t.rs.length).data.toList.toArray⟩ : ByteArray) = textT t) := Lib.hid rfl
        rw [HSS.out] at SC
        clear hne HSS HTX HSUCC HSZ HPOS
        go_wp2_with fail
        (with_reducible refine SC.out.mono ?_)
        rintro e w9 ⟨rfl, hb9⟩
        have HL9 := Lib.hid (HL.out.trans hb9)
        clear hb9
        go_wp2_with fail
        go_ret2
        exact ⟨rfl, Mod.of_below HL9.out⟩
end Go.Proofs.Ytcbafomhifdgpaa.Ke
