/- The contracts of keep's guards. -/
import Derived.Test.YtcbafomhifdgpaaKe1
import Derived.Test.YtcbafomhifdgpaaQuiet
namespace Go.Proofs.Ytcbafomhifdgpaa.Ke
open Go.RowKit Mem Bits
set_option linter.unusedSimpArgs false
set_option linter.unusedVariables false
set_option maxRecDepth 100000

def inW (n m : Int) : Bool := decide (0 ≤ n ∧ n ≤ m)
theorem within_calls (n m : Int) (w : World) :
    Calls Try.prog 62 #[.int .i64 n, .int .i64 m] w fun e w' => e = .returned (.bool (inW n m)) ∧ w = w' := by
  by_cases h0 : 0 ≤ n
  · by_cases h1 : n ≤ m
    · have h : inW n m = true := decide_eq_true ⟨h0, h1⟩
      rw [h]; clear h
      go_enter Try.func62, Try.ntmps62
      go_wp2
      go_ret
      exact ⟨rfl, rfl⟩
    · have h : inW n m = false := decide_eq_false (by omega)
      rw [h]; clear h
      have h1' : m < n := by omega
      have h1b : decide (n ≤ m) = false := decide_eq_false h1
      clear h1
      go_enter Try.func62, Try.ntmps62
      go_wp2
      go_ret
      exact ⟨rfl, rfl⟩
  · have h : inW n m = false := decide_eq_false (by omega)
    rw [h]; clear h
    have h0' : n < 0 := by omega
    clear h0
    go_enter Try.func62, Try.ntmps62
    go_wp2
    go_ret
    exact ⟨rfl, rfl⟩

theorem Blk5A {w : World} {g : Nat} {a b c d e : Value} {t : TypeId} (h : Blk w g #[a, b, c, d, e] t) : (∀ p : After w, p.world.cell? ⟨g, 0, none⟩ = some a) ∧ (∀ p : After w, p.world.cell? ⟨g, 1, none⟩ = some b) ∧ (∀ p : After w, p.world.cell? ⟨g, 2, none⟩ = some c) ∧ (∀ p : After w, p.world.cell? ⟨g, 3, none⟩ = some d) ∧ ∀ p : After w, p.world.cell? ⟨g, 4, none⟩ = some e :=
  ⟨cell_after (a := ⟨g, 0, none⟩) h.lt (h.cell 0), cell_after (a := ⟨g, 1, none⟩) h.lt (h.cell 1), cell_after (a := ⟨g, 2, none⟩) h.lt (h.cell 2), cell_after (a := ⟨g, 3, none⟩) h.lt (h.cell 3), cell_after (a := ⟨g, 4, none⟩) h.lt (h.cell 4)⟩
theorem Blk5c {w : World} {g : Nat} {a b c d e : Value} {t : TypeId} (h : Blk w g #[a, b, c, d, e] t) : w.cell? ⟨g, 0, none⟩ = some a ∧ w.cell? ⟨g, 1, none⟩ = some b ∧ w.cell? ⟨g, 2, none⟩ = some c ∧ w.cell? ⟨g, 3, none⟩ = some d ∧ w.cell? ⟨g, 4, none⟩ = some e := ⟨h.cell 0, h.cell 1, h.cell 2, h.cell 3, h.cell 4⟩
theorem Blk4c {w : World} {g : Nat} {a b c d : Value} {t : TypeId} (h : Blk w g #[a, b, c, d] t) : w.cell? ⟨g, 0, none⟩ = some a ∧ w.cell? ⟨g, 1, none⟩ = some b ∧ w.cell? ⟨g, 2, none⟩ = some c ∧ w.cell? ⟨g, 3, none⟩ = some d := ⟨h.cell 0, h.cell 1, h.cell 2, h.cell 3⟩

set_option maxHeartbeats 4000000 in
theorem run_calls (r : Run) (v : Value) (hr : RunOK r) (hlen : r.ps.length ≤ 140737488351232) (w : World) (h : IntsAt w v r.ps) :
    Calls Try.prog 65 #[runV r v] w fun e w' => e = .returned (.bool (runB r)) ∧ Mod w w' [] := by
  have HB0 := Lib.hid (Blk.new w #[.int .i64 r.b, .int .i64 r.st, .int .i64 r.s, .int .u64 r.seen, v] 73)
  have HM0 := Lib.hid ((Mod.refl w []).alloc (.cells #[.int .i64 r.b, .int .i64 r.st, .int .i64 r.s, .int .u64 r.seen, v] 73))
  have HI0 := Lib.hid (h.mod ((Mod.refl w []).alloc (.cells #[.int .i64 r.b, .int .i64 r.st, .int .i64 r.s, .int .u64 r.seen, v] 73)))
  have hlen' : (r.ps.length : Int) ≤ 140737488351232 := by omega
  obtain ⟨sa, cap, rfl, -⟩ := h.shape
  have WC1 := Lib.hid (fun w => within_calls r.s 63 w)
  have WC2 := Lib.hid (fun w => within_calls (r.ps.length : Int) 15 w)
  have HF : Hid (¬ RunP r → runB r = false) := Lib.hid (fun h => decide_eq_false h)
  clear h hr
  by_cases h1 : r.st < 0
  · have h1b : decide (r.st < 0) = true := decide_eq_true h1
    have hF := HF.out (fun p => by have := p.st; omega)
    rw [hF]
    clear hF
    go_enter Try.func65, Try.ntmps65
    go_wp2_with fail
    generalize w.alloc _ = W at HB0 HM0 HI0 ⊢
    obtain ⟨a0, a1, a2, a3, a4⟩ := Blk5A HB0.out
    obtain ⟨b0, b1, b2, b3, b4⟩ := Blk5c HB0.out
    go_wp2_with fail
    (refine wp_region_quiet_after (by kernel_rfl) (by kernel_rfl) ?_; (repeat (go_big_quiet_step ((first | (with_reducible refine after_same (WC1.out _)) | (with_reducible refine after_same (WC2.out _)))))); refine wpQuiet_nil ?_; intro wq hw'; obtain ⟨⟨wq2, hmq⟩, hw''⟩ := hw'; subst hw'')
    have HMq := Lib.hid (HM0.out.trans0 hmq)
    clear hmq
    go_wp2_with fail
    go_ret
    exact ⟨rfl, HMq.out⟩
  have h1' : 0 ≤ r.st := by omega
  have h1b : decide (r.st < 0) = false := decide_eq_false h1
  clear h1
  by_cases h2 : inW r.s 63 = true
  case neg =>
    rw [Bool.eq_false_iff.2 h2] at WC1
    have hF := HF.out (fun p => by exact h2 (decide_eq_true ⟨p.s0, p.s1⟩))
    rw [hF]
    clear hF
    go_enter Try.func65, Try.ntmps65
    go_wp2_with fail
    generalize w.alloc _ = W at HB0 HM0 HI0 ⊢
    obtain ⟨a0, a1, a2, a3, a4⟩ := Blk5A HB0.out
    obtain ⟨b0, b1, b2, b3, b4⟩ := Blk5c HB0.out
    go_wp2_with fail
    (refine wp_region_quiet_after (by kernel_rfl) (by kernel_rfl) ?_; (repeat (go_big_quiet_step ((first | (with_reducible refine after_same (WC1.out _)) | (with_reducible refine after_same (WC2.out _)))))); refine wpQuiet_nil ?_; intro wq hw'; obtain ⟨⟨wq2, hmq⟩, hw''⟩ := hw'; subst hw'')
    have HMq := Lib.hid (HM0.out.trans0 hmq)
    clear hmq
    go_wp2_with fail
    go_ret
    exact ⟨rfl, HMq.out⟩
  rw [h2] at WC1
  have H2 : Hid (0 ≤ r.s ∧ r.s ≤ 63) := Lib.hid (of_decide_eq_true h2)
  clear h2
  by_cases h3 : inW (r.ps.length : Int) 15 = true
  case neg =>
    rw [Bool.eq_false_iff.2 h3] at WC2
    have hF := HF.out (fun p => by exact h3 (decide_eq_true ⟨by omega, by have := p.n1; omega⟩))
    rw [hF]
    clear hF
    go_enter Try.func65, Try.ntmps65
    go_wp2_with fail
    generalize w.alloc _ = W at HB0 HM0 HI0 ⊢
    obtain ⟨a0, a1, a2, a3, a4⟩ := Blk5A HB0.out
    obtain ⟨b0, b1, b2, b3, b4⟩ := Blk5c HB0.out
    go_wp2_with fail
    (refine wp_region_quiet_after (by kernel_rfl) (by kernel_rfl) ?_; (repeat (go_big_quiet_step ((first | (with_reducible refine after_same (WC1.out _)) | (with_reducible refine after_same (WC2.out _)))))); refine wpQuiet_nil ?_; intro wq hw'; obtain ⟨⟨wq2, hmq⟩, hw''⟩ := hw'; subst hw'')
    have HMq := Lib.hid (HM0.out.trans0 hmq)
    clear hmq
    go_wp2_with fail
    go_ret
    exact ⟨rfl, HMq.out⟩
  rw [h3] at WC2
  have h3' : r.ps.length ≤ 15 := by have := of_decide_eq_true h3; omega
  clear h3
  by_cases h4 : r.ps.length = 0
  · have h4' : ((r.ps.length : Int) == 0) = true := by simp [h4]
    have hF := HF.out (fun p => by have := p.n0; omega)
    rw [hF]
    clear hF
    clear h4
    go_enter Try.func65, Try.ntmps65
    go_wp2_with fail
    generalize w.alloc _ = W at HB0 HM0 HI0 ⊢
    obtain ⟨a0, a1, a2, a3, a4⟩ := Blk5A HB0.out
    obtain ⟨b0, b1, b2, b3, b4⟩ := Blk5c HB0.out
    go_wp2_with fail
    (refine wp_region_quiet_after (by kernel_rfl) (by kernel_rfl) ?_; (repeat (go_big_quiet_step ((first | (with_reducible refine after_same (WC1.out _)) | (with_reducible refine after_same (WC2.out _)))))); refine wpQuiet_nil ?_; intro wq hw'; obtain ⟨⟨wq2, hmq⟩, hw''⟩ := hw'; subst hw'')
    have HMq := Lib.hid (HM0.out.trans0 hmq)
    clear hmq
    go_wp2_with fail
    go_ret
    exact ⟨rfl, HMq.out⟩
  have h4' : ((r.ps.length : Int) == 0) = false := by rw [beq_eq_false_iff_ne]; omega
  have h4p : 0 < (r.ps.length : Int) := by omega
  have hne : r.ps ≠ [] := by intro h; rw [h] at h4; exact h4 rfl
  obtain ⟨bb, off, rfl, hcap, hcm, hc⟩ : ∃ bb off, sa = some ⟨bb, off, none⟩ ∧ r.ps.length ≤ cap ∧ cap ≤ maxLen ∧ ∀ i (hi : i < r.ps.length), (w.alloc (.cells #[.int .i64 r.b, .int .i64 r.st, .int .i64 r.s, .int .u64 r.seen, .slice sa r.ps.length cap] 73)).cell? ⟨bb, off + i, none⟩ = some (.int .i64 r.ps[i]) := by
    obtain ⟨a', cap', e1, e2⟩ := HI0.out.shape
    obtain ⟨bb, off, e3, e4, e5, e6⟩ := e2 hne
    injection e1 with e7 e8 e9
    subst e7 e9
    exact ⟨bb, off, e3, e4, e5, e6⟩
  have HC := Lib.hid hc
  have g0 := hc 0 (by omega)
  rw [Nat.add_zero, ← gi_get] at g0
  have g1 := hc (r.ps.length - 1) (by omega)
  rw [← gi_get] at g1
  have HG0 := Lib.hid g0
  have HG1 := Lib.hid g1
  have hix : ((r.ps.length : Int) - 1).toNat = r.ps.length - 1 := by omega
  have hwx : IntKind.i64.wrap ((r.ps.length : Int) - 1) = (r.ps.length : Int) - 1 := IntWalk.i64_in _ (by omega)
  have hpx : 0 ≤ (r.ps.length : Int) - 1 := by omega
  clear hc g0 g1 h4
  by_cases h5 : gi r.ps 0 = r.b
  case neg =>
    have h5' : (r.b != gi r.ps 0) = true := by rw [bne_iff_ne]; exact fun e => h5 e.symm
    have hF := HF.out (fun p => by exact h5 p.first)
    rw [hF]
    clear hF
    go_enter Try.func65, Try.ntmps65
    go_wp2_with fail
    generalize w.alloc _ = W at HB0 HM0 HI0 HC HG0 HG1 ⊢
    obtain ⟨a0, a1, a2, a3, a4⟩ := Blk5A HB0.out
    obtain ⟨b0, b1, b2, b3, b4⟩ := Blk5c HB0.out
    go_wp2_with fail
    have k0 := cell_after (cell_lt HG0.out) HG0.out
    have k1 := cell_after (cell_lt HG1.out) HG1.out
    (refine wp_region_quiet_after (by kernel_rfl) (by kernel_rfl) ?_; (repeat (go_big_quiet_step ((first | (with_reducible refine after_same (WC1.out _)) | (with_reducible refine after_same (WC2.out _)))))); refine wpQuiet_nil ?_; intro wq hw'; obtain ⟨⟨wq2, hmq⟩, hw''⟩ := hw'; subst hw'')
    have HMq := Lib.hid (HM0.out.trans0 hmq)
    clear hmq
    go_wp2_with fail
    go_ret
    exact ⟨rfl, HMq.out⟩
  have h5' : (r.b != gi r.ps 0) = false := by rw [h5]; simp
  have H5 := Lib.hid h5
  clear h5
  by_cases h6 : r.b < 0
  · have h6b : decide (r.b < 0) = true := decide_eq_true h6
    have hF := HF.out (fun p => by have := p.b0; omega)
    rw [hF]
    clear hF
    go_enter Try.func65, Try.ntmps65
    go_wp2_with fail
    generalize w.alloc _ = W at HB0 HM0 HI0 HC HG0 HG1 ⊢
    obtain ⟨a0, a1, a2, a3, a4⟩ := Blk5A HB0.out
    obtain ⟨b0, b1, b2, b3, b4⟩ := Blk5c HB0.out
    go_wp2_with fail
    have k0 := cell_after (cell_lt HG0.out) HG0.out
    have k1 := cell_after (cell_lt HG1.out) HG1.out
    (refine wp_region_quiet_after (by kernel_rfl) (by kernel_rfl) ?_; (repeat (go_big_quiet_step ((first | (with_reducible refine after_same (WC1.out _)) | (with_reducible refine after_same (WC2.out _)))))); refine wpQuiet_nil ?_; intro wq hw'; obtain ⟨⟨wq2, hmq⟩, hw''⟩ := hw'; subst hw'')
    have HMq := Lib.hid (HM0.out.trans0 hmq)
    clear hmq
    go_wp2_with fail
    go_ret
    exact ⟨rfl, HMq.out⟩
  have h6' : 0 ≤ r.b := by omega
  have h6b : decide (r.b < 0) = false := decide_eq_false h6
  clear h6
  by_cases h7 : 549755813888 < gi r.ps (r.ps.length - 1)
  · have h7b : decide (549755813888 < gi r.ps (r.ps.length - 1)) = true := decide_eq_true h7
    have hF := HF.out (fun p => by have := p.last; omega)
    rw [hF]
    clear hF
    go_enter Try.func65, Try.ntmps65
    go_wp2_with fail
    generalize w.alloc _ = W at HB0 HM0 HI0 HC HG0 HG1 ⊢
    obtain ⟨a0, a1, a2, a3, a4⟩ := Blk5A HB0.out
    obtain ⟨b0, b1, b2, b3, b4⟩ := Blk5c HB0.out
    go_wp2_with fail
    have k0 := cell_after (cell_lt HG0.out) HG0.out
    have k1 := cell_after (cell_lt HG1.out) HG1.out
    (refine wp_region_quiet_after (by kernel_rfl) (by kernel_rfl) ?_; (repeat (go_big_quiet_step ((first | (with_reducible refine after_same (WC1.out _)) | (with_reducible refine after_same (WC2.out _)))))); refine wpQuiet_nil ?_; intro wq hw'; obtain ⟨⟨wq2, hmq⟩, hw''⟩ := hw'; subst hw'')
    have HMq := Lib.hid (HM0.out.trans0 hmq)
    clear hmq
    go_wp2_with fail
    go_ret
    exact ⟨rfl, HMq.out⟩
  have h7' : gi r.ps (r.ps.length - 1) ≤ 549755813888 := by omega
  have h7b : decide (549755813888 < gi r.ps (r.ps.length - 1)) = false := decide_eq_false h7
  clear h7
  go_enter Try.func65, Try.ntmps65
  go_wp2_with fail
  generalize w.alloc _ = W at HB0 HM0 HI0 HC HG0 HG1 ⊢
  obtain ⟨a0, a1, a2, a3, a4⟩ := Blk5A HB0.out
  obtain ⟨b0, b1, b2, b3, b4⟩ := Blk5c HB0.out
  go_wp2_with fail
  have k0 := cell_after (cell_lt HG0.out) HG0.out
  have k1 := cell_after (cell_lt HG1.out) HG1.out
  (refine wp_region_quiet_after (by kernel_rfl) (by kernel_rfl) ?_; (repeat (go_big_quiet_step ((first | (with_reducible refine after_same (WC1.out _)) | (with_reducible refine after_same (WC2.out _)))))); refine wpQuiet_nil ?_; intro wq hw'; obtain ⟨⟨wq2, hmq⟩, hw''⟩ := hw'; subst hw'')
  have HMq := Lib.hid (HM0.out.trans0 hmq)
  have HBq := Lib.hid (HB0.out.mod hmq (by simp))
  have HCq := Lib.hid (fun i hi => keepC hmq (HC.out i hi))
  have HR : Hid (risB r.ps = true → runB r = true) := Lib.hid (fun h => decide_eq_true ⟨h1', H2.out.1, H2.out.2, by omega, h3', H5.out, h6', h7', h⟩)
  obtain ⟨q0, q1, q2, q3, q4⟩ := Blk5c HBq.out
  clear hmq a0 a1 a2 a3 a4 b0 b1 b2 b3 b4 k0 k1 h1' h1b h3' h4' h4p h5' h6' h6b h7' h7b hix hwx hpx WC1 WC2 HG0 HG1 HI0
  go_wp2_with fail
  go_loop [53] (fun vi => ∃ i : Nat, i ≤ r.ps.length ∧ vi = .int .i64 (i : Int) ∧ Hid (∀ j, j + 1 < i → gi r.ps j < gi r.ps (j + 1))) (fun vi => r.ps.length + 1 - (intOf vi).toNat)
  case atStart => exact ⟨0, Nat.zero_le _, rfl, Lib.hid (fun j h => by omega)⟩
  case round =>
    obtain ⟨i, hi, rfl, HJ⟩ := hrel
    by_cases hlt : i < r.ps.length
    · have hlt' : (i : Int) < r.ps.length := by omega
      have g1 := HCq.out i hlt
      rw [← gi_get hlt] at g1
      by_cases hi0 : i = 0
      · subst hi0
        rw [Nat.add_zero] at g1
        generalize gi r.ps 0 = x at *
        go_wp2_with fail
        go_round
        case rel => exact ⟨1, by omega, rfl, Lib.hid (fun j h => by omega)⟩
        case measure => simp [intOf]
      · have hip : 0 < (i : Int) := by omega
        have hip0 : 0 ≤ (i : Int) - 1 := by omega
        have hix : ((i : Int) - 1).toNat = i - 1 := by omega
        have g2 := HCq.out (i - 1) (by omega)
        rw [← gi_get (by omega)] at g2
        have HJ2 : Hid (gi r.ps (i - 1) < gi r.ps i → ∀ j, j + 1 < i + 1 → gi r.ps j < gi r.ps (j + 1)) := Lib.hid (fun h j hj => by
          by_cases e : j + 1 = i
          · rw [e]; have : j = i - 1 := by omega
            rw [this]; exact h
          · exact HJ.out j (by omega))
        have HJ3 : Hid (¬ gi r.ps (i - 1) < gi r.ps i → runB r = false) := Lib.hid (fun h => HF.out (fun p => h (by have := (risB_iff _).1 p.ris (i - 1) (by omega); rwa [show i - 1 + 1 = i by omega] at this)))
        by_cases hx : gi r.ps i ≤ gi r.ps (i - 1)
        · have HX := Lib.hid (HJ3.out (by omega))
          have hxb := decide_eq_true hx
          clear hi0
          generalize gi r.ps i = x at *
          generalize gi r.ps (i - 1) = y at *
          go_wp2_with fail
          go_ret
          exact ⟨by rw [HX.out]; rfl, HMq.out⟩
        · have HX := Lib.hid (HJ2.out (by omega))
          have hxb := decide_eq_false hx
          clear hi0 hx
          generalize gi r.ps i = x at *
          generalize gi r.ps (i - 1) = y at *
          go_wp2_with fail
          go_round
          case rel => exact ⟨i + 1, by omega, by go_num, HX⟩
          case measure => simp [intOf]; omega
    · have hge : (r.ps.length : Int) ≤ i := by omega
      have HX := Lib.hid (HR.out ((risB_iff _).2 (fun j hj => HJ.out j (by omega))))
      go_wp2_with fail
      go_ret
      exact ⟨by rw [HX.out]; rfl, HMq.out⟩
set_option maxHeartbeats 1000000 in
theorem notrun_calls (r : Run) (v : Value) (hr : RunOK r) (hlen : r.ps.length ≤ 140737488351232) (w : World) (h : IntsAt w v r.ps) :
    Calls Try.prog 64 #[runV r v] w fun e w' => e = .returned (.bool (!runB r)) ∧ Mod w w' [] := by
  have HB0 := Lib.hid (Blk.new w #[.int .i64 r.b, .int .i64 r.st, .int .i64 r.s, .int .u64 r.seen, v] 73)
  have HM0 := Lib.hid ((Mod.refl w []).alloc (.cells #[.int .i64 r.b, .int .i64 r.st, .int .i64 r.s, .int .u64 r.seen, v] 73))
  have RC := Lib.hid (fun w h => run_calls r v hr hlen w h)
  have HI0 := Lib.hid (h.mod HM0.out)
  obtain ⟨sa, cap, rfl, -⟩ := h.shape
  clear h hr
  generalize runB r = B at *
  go_enter Try.func64, Try.ntmps64
  go_wp2_with fail
  (with_reducible refine (RC.out _ ?_).mono ?_)
  · exact HI0.out
  rintro e w1 ⟨rfl, hm1⟩
  have HM1 := Lib.hid (HM0.out.trans0 hm1)
  clear hm1
  cases B
  all_goals
    go_wp2_with fail
    go_ret
    exact ⟨rfl, HM1.out⟩

/-- The first that is not kept. -/
def badAt (l : List Run) : Int := match l.findIdx? (fun r => !runB r) with | some i => (i : Int) | none => -1
theorem badAt_hit {l : List Run} {i : Nat} (hi : i < l.length) (h : ∀ j (hj : j < l.length), j < i → runB l[j] = true) (hb : runB l[i] = false) : badAt l = i := by
  have : l.findIdx? (fun r => !runB r) = some i := by
    rw [List.findIdx?_eq_some_iff_getElem]
    exact ⟨hi, by simp [hb], fun j hj => by simp [h j (by omega) hj]⟩
  unfold badAt; rw [this]
theorem badAt_none {l : List Run} (h : ∀ j (hj : j < l.length), runB l[j] = true) : badAt l = -1 := by
  have : l.findIdx? (fun r => !runB r) = none := by
    rw [List.findIdx?_eq_none_iff]
    intro x hx
    obtain ⟨j, hj, rfl⟩ := List.getElem_of_mem hx
    simp [h j hj]
  unfold badAt; rw [this]
theorem badAt_runs (l : List Run) : (!(decide (0 ≤ badAt l))) = runsB l := by
  by_cases h : ∀ j (hj : j < l.length), runB l[j] = true
  · rw [badAt_none h]
    have : runsB l = true := by
      unfold runsB; rw [List.all_eq_true]; intro x hx
      obtain ⟨j, hj, rfl⟩ := List.getElem_of_mem hx
      exact h j hj
    rw [this]; rfl
  · have : runsB l = false := by
      rw [Bool.eq_false_iff]; intro hh; apply h; intro j hj
      exact List.all_eq_true.1 hh _ (List.getElem_mem hj)
    rw [this]
    unfold badAt
    split
    · rename_i i _; simp
    · rename_i hn
      rw [List.findIdx?_eq_none_iff] at hn
      exact absurd (fun j hj => by simpa using hn _ (List.getElem_mem hj)) h

set_option maxHeartbeats 2000000 in
theorem index_calls (l : List Run) (v : Value) (hr : ∀ r ∈ l, RunOK r ∧ r.ps.length ≤ 140737488351232) (hlen : l.length ≤ 140737488351232) (w : World) (h : RunsAt w v l) :
    Calls Try.prog 78 #[v, .func (.func 64) #[] #[]] w fun e w' => e = .returned (.int .i64 (badAt l)) ∧ Mod w w' [] := by
  have hlen' : (l.length : Int) ≤ 140737488351232 := by omega
  obtain ⟨sa, cap, rfl, hsh⟩ := h.shape
  have HSH := Lib.hid hsh
  have HR := Lib.hid hr
  clear h hsh hr
  go_enter Try.func78, Try.ntmps78
  go_wp2_with fail
  go_loopw [8] (fun vi wr => ∃ i : Nat, i ≤ l.length ∧ vi = .int .i64 (i : Int) ∧ Mod w wr [] ∧ Hid (∀ j (hj : j < l.length), j < i → runB l[j] = true)) (fun vi _ => l.length + 1 - (intOf vi).toNat)
  case atStart => exact ⟨0, Nat.zero_le _, rfl, Mod.refl _ _, Lib.hid (fun j hj h => by omega)⟩
  case round =>
    obtain ⟨i, hi, rfl, hm, HJ⟩ := hrel
    have HM := Lib.hid hm
    clear hm
    by_cases hlt : i < l.length
    · have hlt' : (i : Int) < l.length := by omega
      obtain ⟨b, off, rfl, hcap, hcm, hc⟩ := HSH.out (by intro h; rw [h] at hlt; simp at hlt)
      have hci := (hc i hlt).mod HM.out
      have HRC := Lib.hid (fun v w h => notrun_calls (l[i]'hlt) v (HR.out _ (List.getElem_mem hlt)).1 (HR.out _ (List.getElem_mem hlt)).2 w h)
      have HJ2 : Hid (runB (l[i]'hlt) = true → ∀ j (hj : j < l.length), j < i + 1 → runB l[j] = true) := Lib.hid (fun h j hj hji => by
        by_cases e : j = i
        · subst e; exact h
        · exact HJ.out j hj (by omega))
      have HJ3 : Hid (runB (l[i]'hlt) = false → badAt l = i) := Lib.hid (fun h => badAt_hit hlt HJ.out h)
      generalize l[i]'hlt = r at *
      obtain ⟨c0, c1, c2, c3, pv, c4, c5⟩ := hci
      have HC5 := Lib.hid c5
      clear c5 hc HJ
      go_wp2_with fail
      (with_reducible refine (HRC.out _ _ ?_).mono ?_)
      · exact HC5.out
      rintro e w1 ⟨rfl, hm1⟩
      have HM1 := Lib.hid (HM.out.trans0 hm1)
      clear hm1
      cases hb : runB r
      · have HX := Lib.hid (HJ3.out hb)
        clear HJ2 HJ3 hb
        go_wp2_with fail
        go_ret
        exact ⟨by rw [HX.out]; rfl, HM1.out⟩
      · have HX := Lib.hid (HJ2.out hb)
        clear HJ2 HJ3 hb
        go_wp2_with fail
        go_roundw
        case rel => exact ⟨i + 1, by omega, by go_num, HM1.out, HX⟩
        case measure => simp [intOf]; omega
    · have hge : (l.length : Int) ≤ i := by omega
      have HX := Lib.hid (badAt_none (fun j hj => HJ.out j hj (by omega)))
      go_wp2_with fail
      go_ret
      exact ⟨by rw [HX.out]; rfl, HM.out⟩

set_option maxHeartbeats 1000000 in
theorem contains_calls (l : List Run) (v : Value) (hr : ∀ r ∈ l, RunOK r ∧ r.ps.length ≤ 140737488351232) (hlen : l.length ≤ 140737488351232) (w : World) (h : RunsAt w v l) :
    Calls Try.prog 63 #[v, .func (.func 64) #[] #[]] w fun e w' => e = .returned (.bool (decide (0 ≤ badAt l))) ∧ Mod w w' [] := by
  have IC := Lib.hid (index_calls l v hr hlen w h)
  obtain ⟨sa, cap, rfl, hsh⟩ := h.shape
  clear h hsh hr
  generalize badAt l = n at *
  go_enter Try.func63, Try.ntmps63
  go_wp2_with fail
  refine IC.out.mono ?_
  rintro e w1 ⟨rfl, hm1⟩
  have HM1 := Lib.hid hm1
  clear hm1
  go_wp2_with fail
  go_ret
  exact ⟨rfl, HM1.out⟩

set_option maxHeartbeats 2000000 in
theorem may_calls (t : Trk) (v : Value) (ht : TrkOK t) (hp : ∀ r ∈ t.rs, r.ps.length ≤ 140737488351232) (hlen : t.rs.length ≤ 140737488351232) (w : World) (h : RunsAt w v t.rs) :
    Calls Try.prog 36 #[trkV t v] w fun e w' => e = .returned (.bool (trkB t)) ∧ Mod w w' [] := by
  have HB0 := Lib.hid (Blk.new w #[.int .i64 t.c, .int .i64 t.st, .int .i64 t.lo, v] 24)
  have HM0 := Lib.hid ((Mod.refl w []).alloc (.cells #[.int .i64 t.c, .int .i64 t.st, .int .i64 t.lo, v] 24))
  have HI0 := Lib.hid (h.mod HM0.out)
  have hlen' : (t.rs.length : Int) ≤ 140737488351232 := by omega
  have CC := Lib.hid (fun w h => contains_calls t.rs v (fun r hr => ⟨ht.rs r hr, hp r hr⟩) hlen w h)
  obtain ⟨sa, cap, rfl, -⟩ := h.shape
  have WC1 := Lib.hid (fun w => within_calls t.c 549755813888 w)
  have WC2 := Lib.hid (fun w => within_calls t.lo 549755813888 w)
  have HT : Hid (trkB t = ((inW t.c 549755813888 && inW t.lo 549755813888) && (decide (0 ≤ t.st) && (decide (t.rs.length ≤ 64) && !(decide (0 ≤ badAt t.rs)))))) := Lib.hid (by rw [badAt_runs]; rfl)
  generalize trkB t = B at *
  clear h ht hp
  generalize decide (0 ≤ badAt t.rs) = B1 at *
  have hd1 : decide (t.rs.length ≤ 64) = decide ((t.rs.length : Int) ≤ 64) := by rw [decide_eq_decide]; omega
  rw [hd1] at HT
  clear hd1
  by_cases h1 : 0 ≤ t.st <;> by_cases h2 : (t.rs.length : Int) ≤ 64 <;> cases h3 : inW t.c 549755813888 <;> cases h4 : inW t.lo 549755813888
  all_goals
    rw [h3] at WC1 HT
    rw [h4] at WC2 HT
    first | rw [decide_eq_true h1] at HT | rw [decide_eq_false h1] at HT
    first | rw [decide_eq_true h2] at HT | rw [decide_eq_false h2] at HT
    first | (have h1' : decide (t.st < 0) = false := decide_eq_false (by omega)) | (have h1' : decide (t.st < 0) = true := decide_eq_true (by omega))
    first | (have h2' : decide (64 < (t.rs.length : Int)) = false := decide_eq_false (by omega)) | (have h2' : decide (64 < (t.rs.length : Int)) = true := decide_eq_true (by omega))
    first | (have h1'' : t.st < 0 := by omega) | (have h1'' : 0 ≤ t.st := by omega)
    first | (have h2'' : 64 < (t.rs.length : Int) := by omega) | (have h2'' : (t.rs.length : Int) ≤ 64 := by omega)
    clear h1 h2 h3 h4
    simp only [Bool.true_and, Bool.false_and, Bool.and_false, Bool.and_true] at HT
    go_enter Try.func36, Try.ntmps36
    go_wp2_with fail
    generalize w.alloc _ = W at HB0 HM0 HI0 ⊢
    obtain ⟨b0, b1, b2, b3⟩ := Blk4c HB0.out
    go_wp2_with (first | ((with_reducible refine (WC1.out _).mono ?_); rintro e w' ⟨rfl, rfl⟩) | ((with_reducible refine (WC2.out _).mono ?_); rintro e w' ⟨rfl, rfl⟩))
    first
    | (go_ret; exact ⟨by rw [HT.out]; rfl, HM0.out⟩)
    | ((with_reducible refine (CC.out _ HI0.out).mono ?_)
       rintro e w1 ⟨rfl, hm1⟩
       have HM1 := Lib.hid (HM0.out.trans0 hm1)
       clear hm1
       go_wp2_with fail
       go_ret
       exact ⟨by rw [HT.out]; rfl, HM1.out⟩)
end Go.Proofs.Ytcbafomhifdgpaa.Ke
