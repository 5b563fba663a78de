/- The contracts of the reference's guards and of its Write. -/
import Derived.Test.YtcbafomhifdgpaaKe4
import Derived.Test.YtcbafomhifdgpaaBits2
namespace Go.Proofs.Ytcbafomhifdgpaa.Ke
open Go.RowKit Mem Bits
set_option linter.unusedSimpArgs false
set_option linter.unusedVariables false
set_option maxRecDepth 100000

theorem rnum_calls (n : Int) (h0 : 0 ≤ n) (h1 : n ≤ 9223372036854775807) (w : World) :
    Calls Try.prog 42 #[.int .i64 n] w fun e w' => e = .returned (.string (numI n)) ∧ Mod w w' [] := by
  have RC := Lib.hid (fun w => refnum_calls n.toNat (by omega) w)
  have HN : Hid (numI n = Bt.numS n.toNat) := Lib.hid rfl
  rw [Int.toNat_of_nonneg h0, ← HN.out] at RC
  have hw := IntWalk.u64_in n (by omega)
  clear HN
  generalize numI n = S at *
  go_enter Try.func42, Try.ntmps42
  go_wp2_with fail
  (with_reducible refine (RC.out _).mono ?_)
  rintro e w1 ⟨rfl, hm1⟩
  go_wp2_with fail
  go_ret
  exact ⟨rfl, hm1⟩

theorem Blk4A {w : World} {g : Nat} {a b c d : Value} {t : TypeId} (h : Blk w g #[a, b, c, d] t) : (∀ p : After w, p.world.cell? ⟨g, 0, none⟩ = some a) ∧ (∀ p : After w, p.world.cell? ⟨g, 1, none⟩ = some b) ∧ (∀ p : After w, p.world.cell? ⟨g, 2, none⟩ = some c) ∧ (∀ p : After w, p.world.cell? ⟨g, 3, none⟩ = some d) :=
  ⟨cell_after (a := ⟨g, 0, none⟩) h.lt (h.cell 0), cell_after (a := ⟨g, 1, none⟩) h.lt (h.cell 1), cell_after (a := ⟨g, 2, none⟩) h.lt (h.cell 2), cell_after (a := ⟨g, 3, none⟩) h.lt (h.cell 3)⟩
theorem trkB_false {t : Trk} {i : Nat} (hi : i < t.rs.length) (h : ¬ RunP t.rs[i]) : trkB t = false := by
  rw [Bool.eq_false_iff]
  intro hh
  exact h ((trk_parts hh).2.2.2.2 _ (List.getElem_mem hi))
theorem trkB_true {t : Trk} (h1 : 0 ≤ t.c ∧ t.c ≤ 549755813888) (h2 : 0 ≤ t.lo ∧ t.lo ≤ 549755813888) (h3 : 0 ≤ t.st) (h4 : t.rs.length ≤ 64) (h : ∀ j (hj : j < t.rs.length), RunP t.rs[j]) : trkB t = true := by
  unfold trkB runsB
  simp only [Bool.and_eq_true, decide_eq_true_eq]
  refine ⟨⟨h1, h2⟩, h3, h4, List.all_eq_true.2 fun r hr => ?_⟩
  obtain ⟨j, hj, rfl⟩ := List.getElem_of_mem hr
  exact decide_eq_true (h j hj)

set_option maxHeartbeats 8000000 in
theorem rmay_calls (t : Trk) (v : Value) (ht : TrkOK t) (hp : ∀ r ∈ t.rs, r.ps.length ≤ 140737488351232) (hlen : t.rs.length ≤ 140737488351232) (w : World) (h : RunsAt w v t.rs) :
    Calls Try.prog 41 #[trkV t v] w fun e w' => e = .returned (.bool (trkB t)) ∧ Mod w w' [] := by
  have HB0 := Lib.hid (Blk.new w #[.int .i64 t.c, .int .i64 t.st, .int .i64 t.lo, v] 34)
  have HM0 := Lib.hid ((Mod.refl w []).alloc (.cells #[.int .i64 t.c, .int .i64 t.st, .int .i64 t.lo, v] 34))
  have HI0 := Lib.hid (h.mod HM0.out)
  have hlen' : (t.rs.length : Int) ≤ 140737488351232 := by omega
  obtain ⟨sa, cap, rfl, -⟩ := h.shape
  have HT0 : Hid (¬ ((0 ≤ t.c ∧ t.c ≤ 549755813888) ∧ (0 ≤ t.lo ∧ t.lo ≤ 549755813888) ∧ 0 ≤ t.st ∧ t.rs.length ≤ 64) → trkB t = false) := Lib.hid (fun h => by
    rw [Bool.eq_false_iff]; intro hh; have := trk_parts hh; exact h ⟨this.1, this.2.1, this.2.2.1, this.2.2.2.1⟩)
  have HTF := Lib.hid (fun i hi hn => @trkB_false t i hi hn)
  have HTT := Lib.hid (@trkB_true t)
  have HP := Lib.hid hp
  clear h ht hp
  generalize trkB t = B at *
  rcases (by omega : t.c < 0 ∨ 549755813888 < t.c ∨ t.lo < 0 ∨ 549755813888 < t.lo ∨ t.st < 0 ∨ 64 < t.rs.length ∨ (0 ≤ t.c ∧ t.c ≤ 549755813888 ∧ 0 ≤ t.lo ∧ t.lo ≤ 549755813888 ∧ 0 ≤ t.st ∧ t.rs.length ≤ 64)) with h | h | h | h | h | h | h
  case inr.inr.inr.inr.inr.inr =>
    obtain ⟨h1, h2, h3, h4, h5, h6⟩ := h
    have h6' : (t.rs.length : Int) ≤ 64 := by omega
    go_enter Try.func41, Try.ntmps41
    go_wp2_with fail
    generalize w.alloc _ = W at HB0 HM0 HI0 ⊢
    obtain ⟨b0, b1, b2, b3⟩ := Blk4c HB0.out
    go_wp2_with fail
    go_loopw [3] (fun vi wr => ∃ i : Nat, i ≤ t.rs.length ∧ vi = .int .i64 (i : Int) ∧ Mod W wr [] ∧ Hid (∀ j (hj : j < t.rs.length), j < i → RunP t.rs[j])) (fun vi _ => t.rs.length + 1 - (intOf vi).toNat)
    case atStart => exact ⟨0, Nat.zero_le _, rfl, Mod.refl _ _, Lib.hid (fun j hj h => by omega)⟩
    case round =>
      obtain ⟨i, hi, rfl, hm, HJ⟩ := hrel
      have HM := Lib.hid hm
      obtain ⟨b0, b1, b2, b3⟩ := Blk4c (HB0.out.mod hm (by simp))
      clear hm
      by_cases hlt : i < t.rs.length
      · have hlt' : (i : Int) < t.rs.length := by omega
        obtain ⟨bb, off, hsa, hcap, hcm, hc⟩ : ∃ bb off, sa = some ⟨bb, off, none⟩ ∧ t.rs.length ≤ cap ∧ cap ≤ maxLen ∧ ∀ i (hi : i < t.rs.length), RunC W bb (off + i * 5) t.rs[i] := by
          obtain ⟨a', cap', e1, e2⟩ := HI0.out.shape
          obtain ⟨bb, off, e3, e4, e5, e6⟩ := e2 (by intro h; rw [h] at hlt; simp at hlt)
          injection e1 with e7 e8 e9
          subst e7 e9
          exact ⟨bb, off, e3, e4, e5, e6⟩
        subst hsa
        have hci := (hc i hlt).mod HM.out
        have hlen1 := HP.out _ (List.getElem_mem hlt)
        have HTFi := Lib.hid (HTF.out i hlt)
        have HJ2 : Hid (RunP (t.rs[i]'hlt) → ∀ j (hj : j < t.rs.length), j < i + 1 → RunP t.rs[j]) := Lib.hid (fun h j hj hji => by
          by_cases e : j = i
          · subst e; exact h
          · exact HJ.out j hj (by omega))
        generalize t.rs[i]'hlt = r at *
        obtain ⟨d0, d1, d2, d3, pv, d4, d5⟩ := hci
        obtain ⟨sp, cp, rfl, hsp⟩ := d5.shape
        have HD5 := Lib.hid (d5.mod ((Mod.refl wr []).alloc (.cells #[.int .i64 r.b, .int .i64 r.st, .int .i64 r.s, .int .u64 r.seen, .slice sp r.ps.length cp] 86)))
        have HBX := Lib.hid (Blk.new wr #[.int .i64 r.b, .int .i64 r.st, .int .i64 r.s, .int .u64 r.seen, .slice sp r.ps.length cp] 86)
        have HM1 := Lib.hid (HM.out.alloc (.cells #[.int .i64 r.b, .int .i64 r.st, .int .i64 r.s, .int .u64 r.seen, .slice sp r.ps.length cp] 86))
        have HB1 := Lib.hid ((HB0.out.mod HM.out (by simp)).alloc (.cells #[.int .i64 r.b, .int .i64 r.st, .int .i64 r.s, .int .u64 r.seen, .slice sp r.ps.length cp] 86))
        have hlr : (r.ps.length : Int) ≤ 140737488351232 := by omega
        have hgw : w.heap.size < wr.heap.size := Nat.lt_of_lt_of_le HB0.out.lt HM.out.size
        clear d5 hc hsp HTF HJ
        go_wp2_with fail
        generalize wr.alloc _ = V at HD5 HBX HM1 HB1 ⊢
        obtain ⟨a0, a1, a2, a3, a4⟩ := Blk5A HBX.out
        obtain ⟨x0, x1, x2, x3, x4⟩ := Blk5c HBX.out
        clear d0 d1 d2 d3 d4 b0 b1 b2 b3
        by_cases h11 : r.ps.length = 0
        · have h11b : decide ((r.ps.length : Int) < 1) = true := decide_eq_true (by omega)
          have hF := HTFi.out (fun p => by have := p.n0; omega)
          have HF := Lib.hid hF
          clear hF HJ2 HTT
          clear h11
          go_wp2_with fail
          (refine wp_region_quiet_after (by kernel_rfl) (by kernel_rfl) ?_; (repeat (go_big_quiet_step (fail))); refine wpQuiet_nil ?_; intro wq hw'; obtain ⟨⟨wq2, hmq⟩, hw''⟩ := hw'; subst hw'')
          have HMq := Lib.hid (HM0.out.trans0 (HM1.out.trans0 hmq))
          clear hmq
          go_wp2_with fail
          go_ret
          exact ⟨by rw [HF.out]; rfl, HMq.out⟩
        have h11b : decide ((r.ps.length : Int) < 1) = false := decide_eq_false (by omega)
        have h11p : 1 ≤ (r.ps.length : Int) := by omega
        have hne : r.ps ≠ [] := by intro h; rw [h] at h11; exact h11 rfl
        by_cases h12 : 15 < (r.ps.length : Int)
        · have h12b : decide (15 < (r.ps.length : Int)) = true := decide_eq_true h12
          have hF := HTFi.out (fun p => by have := p.n1; omega)
          have HF := Lib.hid hF
          clear hF HJ2 HTT
          go_wp2_with fail
          (refine wp_region_quiet_after (by kernel_rfl) (by kernel_rfl) ?_; (repeat (go_big_quiet_step (fail))); refine wpQuiet_nil ?_; intro wq hw'; obtain ⟨⟨wq2, hmq⟩, hw''⟩ := hw'; subst hw'')
          have HMq := Lib.hid (HM0.out.trans0 (HM1.out.trans0 hmq))
          clear hmq
          go_wp2_with fail
          go_ret
          exact ⟨by rw [HF.out]; rfl, HMq.out⟩
        have h12b : decide (15 < (r.ps.length : Int)) = false := decide_eq_false h12
        have h12p : (r.ps.length : Int) ≤ 15 := by omega
        clear h12
        by_cases h13 : r.b < 0
        · have h13b : decide (r.b < 0) = true := decide_eq_true h13
          have hF := HTFi.out (fun p => by have := p.b0; omega)
          have HF := Lib.hid hF
          clear hF HJ2 HTT
          go_wp2_with fail
          (refine wp_region_quiet_after (by kernel_rfl) (by kernel_rfl) ?_; (repeat (go_big_quiet_step (fail))); refine wpQuiet_nil ?_; intro wq hw'; obtain ⟨⟨wq2, hmq⟩, hw''⟩ := hw'; subst hw'')
          have HMq := Lib.hid (HM0.out.trans0 (HM1.out.trans0 hmq))
          clear hmq
          go_wp2_with fail
          go_ret
          exact ⟨by rw [HF.out]; rfl, HMq.out⟩
        have h13b : decide (r.b < 0) = false := decide_eq_false h13
        have h13p : 0 ≤ r.b := by omega
        clear h13
        by_cases h14 : r.st < 0
        · have h14b : decide (r.st < 0) = true := decide_eq_true h14
          have hF := HTFi.out (fun p => by have := p.st; omega)
          have HF := Lib.hid hF
          clear hF HJ2 HTT
          go_wp2_with fail
          (refine wp_region_quiet_after (by kernel_rfl) (by kernel_rfl) ?_; (repeat (go_big_quiet_step (fail))); refine wpQuiet_nil ?_; intro wq hw'; obtain ⟨⟨wq2, hmq⟩, hw''⟩ := hw'; subst hw'')
          have HMq := Lib.hid (HM0.out.trans0 (HM1.out.trans0 hmq))
          clear hmq
          go_wp2_with fail
          go_ret
          exact ⟨by rw [HF.out]; rfl, HMq.out⟩
        have h14b : decide (r.st < 0) = false := decide_eq_false h14
        have h14p : 0 ≤ r.st := by omega
        clear h14
        by_cases h15 : r.s < 0
        · have h15b : decide (r.s < 0) = true := decide_eq_true h15
          have hF := HTFi.out (fun p => by have := p.s0; omega)
          have HF := Lib.hid hF
          clear hF HJ2 HTT
          go_wp2_with fail
          (refine wp_region_quiet_after (by kernel_rfl) (by kernel_rfl) ?_; (repeat (go_big_quiet_step (fail))); refine wpQuiet_nil ?_; intro wq hw'; obtain ⟨⟨wq2, hmq⟩, hw''⟩ := hw'; subst hw'')
          have HMq := Lib.hid (HM0.out.trans0 (HM1.out.trans0 hmq))
          clear hmq
          go_wp2_with fail
          go_ret
          exact ⟨by rw [HF.out]; rfl, HMq.out⟩
        have h15b : decide (r.s < 0) = false := decide_eq_false h15
        have h15p : 0 ≤ r.s := by omega
        clear h15
        by_cases h16 : 63 < r.s
        · have h16b : decide (63 < r.s) = true := decide_eq_true h16
          have hF := HTFi.out (fun p => by have := p.s1; omega)
          have HF := Lib.hid hF
          clear hF HJ2 HTT
          go_wp2_with fail
          (refine wp_region_quiet_after (by kernel_rfl) (by kernel_rfl) ?_; (repeat (go_big_quiet_step (fail))); refine wpQuiet_nil ?_; intro wq hw'; obtain ⟨⟨wq2, hmq⟩, hw''⟩ := hw'; subst hw'')
          have HMq := Lib.hid (HM0.out.trans0 (HM1.out.trans0 hmq))
          clear hmq
          go_wp2_with fail
          go_ret
          exact ⟨by rw [HF.out]; rfl, HMq.out⟩
        have h16b : decide (63 < r.s) = false := decide_eq_false h16
        have h16p : r.s ≤ 63 := by omega
        clear h16
        obtain ⟨pb, po, hsp, hpcap, hpcm, hpc⟩ : ∃ pb po, sp = some ⟨pb, po, none⟩ ∧ r.ps.length ≤ cp ∧ cp ≤ maxLen ∧ ∀ i (hi : i < r.ps.length), V.cell? ⟨pb, po + i, none⟩ = some (.int .i64 r.ps[i]) := by
          obtain ⟨a', cap', e1, e2⟩ := HD5.out.shape
          obtain ⟨bb, off, e3, e4, e5, e6⟩ := e2 hne
          injection e1 with e7 e8 e9
          subst e7 e9
          exact ⟨bb, off, e3, e4, e5, e6⟩
        subst hsp
        have HC := Lib.hid hpc
        have g0 := hpc 0 (by omega)
        rw [Nat.add_zero, ← gi_get] at g0
        have g1 := hpc (r.ps.length - 1) (by omega)
        rw [← gi_get] at g1
        have k0 := cell_after (cell_lt g0) g0
        have k1 := cell_after (cell_lt g1) g1
        have hix : ((r.ps.length : Int) - 1).toNat = r.ps.length - 1 := by omega
        have hwx : IntKind.i64.wrap ((r.ps.length : Int) - 1) = (r.ps.length : Int) - 1 := IntWalk.i64_in _ (by omega)
        have hpx : 0 ≤ (r.ps.length : Int) - 1 := by omega
        clear hpc h11
        by_cases h17 : gi r.ps 0 = r.b
        case neg =>
          have h17b : (gi r.ps 0 != r.b) = true := by rw [bne_iff_ne]; exact h17
          have hF := HTFi.out (fun p => by exact h17 p.first)
          have HF := Lib.hid hF
          clear hF HJ2 HTT
          clear h17
          go_wp2_with fail
          (refine wp_region_quiet_after (by kernel_rfl) (by kernel_rfl) ?_; (repeat (go_big_quiet_step (fail))); refine wpQuiet_nil ?_; intro wq hw'; obtain ⟨⟨wq2, hmq⟩, hw''⟩ := hw'; subst hw'')
          have HMq := Lib.hid (HM0.out.trans0 (HM1.out.trans0 hmq))
          clear hmq
          go_wp2_with fail
          go_ret
          exact ⟨by rw [HF.out]; rfl, HMq.out⟩
        have h17b : (gi r.ps 0 != r.b) = false := by rw [h17]; simp
        have H17 := Lib.hid h17
        clear h17
        by_cases h18 : 549755813888 < gi r.ps (r.ps.length - 1)
        · have h18b : decide (549755813888 < gi r.ps (r.ps.length - 1)) = true := decide_eq_true h18
          have hF := HTFi.out (fun p => by have := p.last; omega)
          have HF := Lib.hid hF
          clear hF HJ2 HTT
          go_wp2_with fail
          (refine wp_region_quiet_after (by kernel_rfl) (by kernel_rfl) ?_; (repeat (go_big_quiet_step (fail))); refine wpQuiet_nil ?_; intro wq hw'; obtain ⟨⟨wq2, hmq⟩, hw''⟩ := hw'; subst hw'')
          have HMq := Lib.hid (HM0.out.trans0 (HM1.out.trans0 hmq))
          clear hmq
          go_wp2_with fail
          go_ret
          exact ⟨by rw [HF.out]; rfl, HMq.out⟩
        have h18b : decide (549755813888 < gi r.ps (r.ps.length - 1)) = false := decide_eq_false h18
        have h18p : gi r.ps (r.ps.length - 1) ≤ 549755813888 := by omega
        clear h18
        go_wp2_with fail
        (refine wp_region_quiet_after (by kernel_rfl) (by kernel_rfl) ?_; (repeat (go_big_quiet_step (fail))); refine wpQuiet_nil ?_; intro wq hw'; obtain ⟨⟨wq2, hmq⟩, hw''⟩ := hw'; subst hw'')
        have HMq := Lib.hid (HM1.out.trans0 hmq)
        have HBq := Lib.hid (HBX.out.mod hmq (by simp))
        have HB0q := Lib.hid (HB1.out.mod hmq (by simp))
        have HCq := Lib.hid (fun i hi => keepC hmq (HC.out i hi))
        have HR : Hid (risB r.ps = true → RunP r) := Lib.hid (fun h => ⟨h14p, h15p, h16p, by omega, by omega, H17.out, h13p, h18p, h⟩)
        obtain ⟨q0, q1, q2, q3, q4⟩ := Blk5c HBq.out
        clear hmq a0 a1 a2 a3 a4 x0 x1 x2 x3 x4 k0 k1 g0 g1 h11b h12b h13b h14b h15b h16b h17b h18b hix hwx hpx h13p h14p h15p h16p h18p
        go_wp2_with fail
        obtain ⟨wo, rfl⟩ : ∃ wo : World, wo = wr := ⟨_, rfl⟩
        have hn15 : (r.ps.length : Int) ≤ 15 := h12p
        go_loopw [6] (fun vk wr => ∃ k : Nat, 1 ≤ k ∧ k ≤ r.ps.length ∧ vk = .int .i64 (k : Int) ∧ Mod wq wr [] ∧ Hid (∀ j, j + 1 < k → gi r.ps j < gi r.ps (j + 1))) (fun vk _ => r.ps.length + 1 - (intOf vk).toNat)
        case atStart => exact ⟨1, Nat.le_refl _, by omega, rfl, Mod.refl _ _, Lib.hid (fun j h => by omega)⟩
        case round =>
          obtain ⟨k, hk1, hk, rfl, hm2, HK⟩ := hrel
          have HM2 := Lib.hid hm2
          obtain ⟨y0, y1, y2, y3, y4⟩ := Blk5c (HBq.out.mod hm2 (by simp))
          clear hm2 q0 q1 q2 q3 q4
          by_cases hkl : k < r.ps.length
          · have hkl' : (k : Int) < r.ps.length := by omega
            have g1 := keepC HM2.out (HCq.out k hkl)
            have g0 := keepC HM2.out (HCq.out (k - 1) (by omega))
            rw [← gi_get (by omega)] at g1 g0
            have z1 := cell_after (cell_lt g1) g1
            have z0 := cell_after (cell_lt g0) g0
            have z4 := cell_after (cell_lt y4) y4
            have hix : ((k : Int) - 1).toNat = k - 1 := by omega
            have hwx : IntKind.i64.wrap ((k : Int) - 1) = (k : Int) - 1 := IntWalk.i64_in _ (by omega)
            have hpx : 0 ≤ (k : Int) - 1 := by omega
            have hk0 : 0 ≤ (k : Int) := by omega
            have hkx : (k : Int) - 1 < r.ps.length := by omega
            have HK2 : Hid (gi r.ps (k - 1) < gi r.ps k → ∀ j, j + 1 < k + 1 → gi r.ps j < gi r.ps (j + 1)) := Lib.hid (fun h j hj => by
              by_cases e : j + 1 = k
              · rw [e]; have : j = k - 1 := by omega
                rw [this]; exact h
              · exact HK.out j (by omega))
            have HK3 : Hid (¬ gi r.ps (k - 1) < gi r.ps k → ¬ RunP r) := Lib.hid (fun h p => h (by have := (risB_iff _).1 p.ris (k - 1) (by omega); rwa [show k - 1 + 1 = k by omega] at this))
            by_cases hx : gi r.ps k ≤ gi r.ps (k - 1)
            · have HX := Lib.hid (HTFi.out (HK3.out (by omega)))
              have hxb := decide_eq_true hx
              clear hx HK2 HK3 HJ2 HTT
              generalize gi r.ps k = a at *
              generalize gi r.ps (k - 1) = b at *
              go_wp2_with fail
              (refine wp_region_quiet_after (by kernel_rfl) (by kernel_rfl) ?_; (repeat (go_big_quiet_step (fail))); refine wpQuiet_nil ?_; intro wq hw'; obtain ⟨⟨wq2, hmq⟩, hw''⟩ := hw'; subst hw'')
              have HMz := Lib.hid (HM0.out.trans0 ((HMq.out.trans0 HM2.out).trans0 hmq))
              clear hmq
              go_wp2_with fail
              go_ret
              exact ⟨by rw [HX.out]; rfl, HMz.out⟩
            · have HX := Lib.hid (HK2.out (by omega))
              have hxb := decide_eq_false hx
              clear hx HK2 HK3
              generalize gi r.ps k = a at *
              generalize gi r.ps (k - 1) = b at *
              go_wp2_with fail
              (refine wp_region_quiet_after (by kernel_rfl) (by kernel_rfl) ?_; (repeat (go_big_quiet_step (fail))); refine wpQuiet_nil ?_; intro wq hw'; obtain ⟨⟨wq2, hmq⟩, hw''⟩ := hw'; subst hw'')
              have HMz := Lib.hid (HM2.out.trans0 hmq)
              clear hmq
              go_wp2_with fail
              go_roundw
              case rel => exact ⟨k + 1, by omega, by omega, by go_num, HMz.out, HX⟩
              case measure => simp [intOf]; omega
          · have hge : (r.ps.length : Int) ≤ k := by omega
            have HX := Lib.hid (HJ2.out (HR.out ((risB_iff _).2 (fun j hj => HK.out j (by omega)))))
            have HMz := Lib.hid (HMq.out.trans0 HM2.out)
            clear HJ2 HR HK
            go_wp2_with fail
            go_roundw
            case rel => exact ⟨i + 1, by omega, by go_num, HMz.out, HX⟩
            case measure => simp [intOf]; omega
      · have hge : (t.rs.length : Int) ≤ i := by omega
        have HX := Lib.hid (HTT.out ⟨h1, h2⟩ ⟨h3, h4⟩ h5 h6 (fun j hj => HJ.out j hj (by omega)))
        go_wp2_with fail
        go_ret
        exact ⟨by rw [HX.out]; rfl, HM0.out.trans0 HM.out⟩
  all_goals
    have HX := Lib.hid (HT0.out (by omega))
    first | (have hx1 : t.c < 0 := by omega) | (have hx1 : 0 ≤ t.c := by omega) | skip
    have hh := decide_eq_true h
    clear HTT HTF HT0
    go_enter Try.func41, Try.ntmps41
    go_wp2_with fail
    generalize w.alloc _ = W at HB0 HM0 HI0 ⊢
    obtain ⟨b0, b1, b2, b3⟩ := Blk4c HB0.out
    go_wp2_with fail
    all_goals
      go_ret
      exact ⟨by rw [HX.out]; rfl, HM0.out⟩
end Go.Proofs.Ytcbafomhifdgpaa.Ke
