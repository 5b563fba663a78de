/- The contracts of the reference's comparison of two values. -/
import Derived.Test.YtdmipmkgoefidaaEvH4
namespace Go.Proofs.Ytdmipmkgoefidaa.EvH
open Go.RowKit Mem
set_option linter.unusedSimpArgs false
set_option linter.unusedVariables false
set_option maxRecDepth 100000

theorem BlkA {W : World} {g : Nat} {a b c d : Value} {t : TypeId} (h : Blk W g #[a, b, c, d] t) : (∀ p : After W, p.world.cell? ⟨g, 0, none⟩ = some a) ∧ (∀ p : After W, p.world.cell? ⟨g, 1, none⟩ = some b) ∧ (∀ p : After W, p.world.cell? ⟨g, 2, none⟩ = some c) ∧ (∀ p : After W, p.world.cell? ⟨g, 3, none⟩ = some d) :=
  ⟨fun p => (h.mod p.mod (by simp)).cell 0, fun p => (h.mod p.mod (by simp)).cell 1, fun p => (h.mod p.mod (by simp)).cell 2, fun p => (h.mod p.mod (by simp)).cell 3⟩

set_option maxHeartbeats 2000000 in
theorem refStands_calls (k n : Int) (f : Nat) (s : ByteArray) (k' n' : Int) (f' : Nat) (s' : ByteArray) (hk : 1 ≤ k ∧ k ≤ 3) (hk' : 1 ≤ k' ∧ k' ≤ 3) (b1 : -9223372036854775808 ≤ n) (b2 : n ≤ 9223372036854775807) (b3 : -9223372036854775808 ≤ n') (b4 : n' ≤ 9223372036854775807) (hf : f < 18446744073709551616) (hf' : f' < 18446744073709551616) (w : World) :
    Calls Try.prog 39 #[valV k n f s, valV k' n' f' s'] w fun e w' => e = .returned (.int .i64 (refW (stW k n f s k' n' f' s'))) ∧ Mod w w' [] := by
  have ka : k = 1 ∨ k = 2 ∨ k = 3 := by omega
  have kb : k' = 1 ∨ k' = 2 ∨ k' = 3 := by omega
  have hs : stW k n f s k' n' f' s' = if k = 3 ∧ k' = 3 then 2 + cmpS s s' else if k = 1 ∧ k' = 1 then 2 + cmpI n n' else if k = 1 ∧ k' = 2 then mixW n f'
    else if k = 2 ∧ k' = 1 then turnW (mixW n' f) else if k = 2 ∧ k' = 2 then realW f f' else 0 := rfl
  have hb0 := (Blk.new w #[.int .i64 k, .int .i64 n, .float .f64 f, .string s] 45).alloc (.cells #[.int .i64 k', .int .i64 n', .float .f64 f', .string s'] 45)
  have hb1 := Blk.new (w.alloc (.cells #[.int .i64 k, .int .i64 n, .float .f64 f, .string s] 45)) #[.int .i64 k', .int .i64 n', .float .f64 f', .string s'] 45
  rw [World.size_alloc] at hb1
  have hm0 := ((Mod.refl w []).alloc (.cells #[.int .i64 k, .int .i64 n, .float .f64 f, .string s] 45)).alloc (.cells #[.int .i64 k', .int .i64 n', .float .f64 f', .string s'] 45)
  have HB0 := Lib.hid hb0
  have HB1 := Lib.hid hb1
  have HM0 := Lib.hid hm0
  have N1 := Lib.hid (fun w => nan_calls f w)
  have N2 := Lib.hid (fun w => nan_calls f' w)
  clear hb0 hb1 hk hk' hm0
  rcases ka with rfl | rfl | rfl <;> rcases kb with rfl | rfl | rfl <;> simp only [reduceCtorEq, and_self, and_true, true_and, and_false, false_and, if_true, if_false, Int.reduceEq] at hs <;> rw [hs] <;> clear hs
  · rcases cmp_cases n n' with ⟨hc, e⟩ | ⟨hc, e⟩ | ⟨hc, e⟩
    all_goals
      rw [e]
      clear e
      try subst hc
      go_enter Try.func39, Try.ntmps39
      go_wp2_with fail
      generalize (w.alloc _).alloc _ = W at HB0 HB1 HM0 ⊢
      obtain ⟨a0, a1, a2, a3⟩ := BlkA HB0.out
      obtain ⟨a4, a5, a6, a7⟩ := BlkA HB1.out
      (refine wp_region_quiet_after (by kernel_rfl) (by kernel_rfl) ?_; (repeat (go_big_quiet_step (fail))); refine wpQuiet_nil ?_; intro _ hw'; obtain ⟨⟨wq, hmq⟩, hw''⟩ := hw'; subst hw'')
      have C0 := Lib.hid (HB0.out.mod hmq (by simp))
      have C1 := Lib.hid (HB1.out.mod hmq (by simp))
      have M1 := Lib.hid (HM0.out.trans0 hmq)
      clear a0 a1 a2 a3 a4 a5 a6 a7 hmq
      obtain ⟨c0, c1, c2, c3⟩ := Blk4 C0.out
      obtain ⟨d0, d1, d2, d3⟩ := Blk4 C1.out
      go_wp2_with fail
      obtain ⟨a0, a1, a2, a3⟩ := BlkA C0.out
      obtain ⟨a4, a5, a6, a7⟩ := BlkA C1.out
      (refine wp_region_quiet_after (by kernel_rfl) (by kernel_rfl) ?_; (repeat (go_big_quiet_step (fail))); refine wpQuiet_nil ?_; intro _ hw'; obtain ⟨⟨wq, hmq⟩, hw''⟩ := hw'; subst hw'')
      have M2 := Lib.hid (M1.out.trans0 hmq)
      go_wp2_with fail
      go_ret
      exact ⟨rfl, M2.out⟩
  · cases hn : Fl.nanB f'
    · have LC := Lib.hid (fun w => refless_calls n f' b1 b2 hf' hn w)
      have MC := Lib.hid (fun w => refmore_calls n f' b1 b2 hf' hn w)
      rw [mixW_num n f' hn]
      rw [hn] at N2
      rcases cmp_cases (Fl.NV n) (Fl.SV f') with ⟨hc, e⟩ | ⟨hc, e⟩ | ⟨hc, e⟩
      all_goals
        rw [e]
        clear e
        first | (rw [decide_eq_true hc] at LC; rw [decide_eq_false (by omega)] at MC) | (rw [decide_eq_false (by omega)] at LC; rw [decide_eq_false (by omega)] at MC) | (rw [decide_eq_false (by omega)] at LC; rw [decide_eq_true hc] at MC)
        clear hc hn
        go_enter Try.func39, Try.ntmps39
        go_wp2_with fail
        generalize (w.alloc _).alloc _ = W at HB0 HB1 HM0 ⊢
        obtain ⟨a0, a1, a2, a3⟩ := BlkA HB0.out
        obtain ⟨a4, a5, a6, a7⟩ := BlkA HB1.out
        (refine wp_region_quiet_after (by kernel_rfl) (by kernel_rfl) ?_; (repeat (go_big_quiet_step (fail))); refine wpQuiet_nil ?_; intro _ hw'; obtain ⟨⟨wq, hmq⟩, hw''⟩ := hw'; subst hw'')
        have C0 := Lib.hid (HB0.out.mod hmq (by simp))
        have C1 := Lib.hid (HB1.out.mod hmq (by simp))
        have M1 := Lib.hid (HM0.out.trans0 hmq)
        clear a0 a1 a2 a3 a4 a5 a6 a7 hmq
        obtain ⟨c0, c1, c2, c3⟩ := Blk4 C0.out
        obtain ⟨d0, d1, d2, d3⟩ := Blk4 C1.out
        go_wp2_with fail
        refine (N2.out _).mono ?_
        rintro e w2 ⟨rfl, rfl⟩
        go_wp2_with fail
        obtain ⟨a0, a1, a2, a3⟩ := BlkA C0.out
        obtain ⟨a4, a5, a6, a7⟩ := BlkA C1.out
        (refine wp_region_quiet_after (by kernel_rfl) (by kernel_rfl) ?_; (repeat (go_big_quiet_step ((first | (with_reducible refine after_same (LC.out _)) | (with_reducible refine after_same (MC.out _)))))); refine wpQuiet_nil ?_; intro _ hw'; obtain ⟨⟨wq, hmq⟩, hw''⟩ := hw'; subst hw'')
        have M2 := Lib.hid (M1.out.trans0 hmq)
        go_wp2_with fail
        go_ret
        exact ⟨rfl, M2.out⟩
    · rw [mixW_nan n f' hn]
      rw [hn] at N2
      clear hn
      go_enter Try.func39, Try.ntmps39
      go_wp2_with fail
      generalize (w.alloc _).alloc _ = W at HB0 HB1 HM0 ⊢
      obtain ⟨a0, a1, a2, a3⟩ := BlkA HB0.out
      obtain ⟨a4, a5, a6, a7⟩ := BlkA HB1.out
      (refine wp_region_quiet_after (by kernel_rfl) (by kernel_rfl) ?_; (repeat (go_big_quiet_step (fail))); refine wpQuiet_nil ?_; intro _ hw'; obtain ⟨⟨wq, hmq⟩, hw''⟩ := hw'; subst hw'')
      have C0 := Lib.hid (HB0.out.mod hmq (by simp))
      have C1 := Lib.hid (HB1.out.mod hmq (by simp))
      have M1 := Lib.hid (HM0.out.trans0 hmq)
      clear a0 a1 a2 a3 a4 a5 a6 a7 hmq
      obtain ⟨c0, c1, c2, c3⟩ := Blk4 C0.out
      obtain ⟨d0, d1, d2, d3⟩ := Blk4 C1.out
      go_wp2_with fail
      refine (N2.out _).mono ?_
      rintro e w2 ⟨rfl, rfl⟩
      go_wp2_with fail
      go_ret
      exact ⟨rfl, M1.out⟩
  · go_enter Try.func39, Try.ntmps39
    go_wp2_with fail
    generalize (w.alloc _).alloc _ = W at HB0 HB1 HM0 ⊢
    obtain ⟨a0, a1, a2, a3⟩ := BlkA HB0.out
    obtain ⟨a4, a5, a6, a7⟩ := BlkA HB1.out
    (refine wp_region_quiet_after (by kernel_rfl) (by kernel_rfl) ?_; (repeat (go_big_quiet_step (fail))); refine wpQuiet_nil ?_; intro _ hw'; obtain ⟨⟨wq, hmq⟩, hw''⟩ := hw'; subst hw'')
    have C0 := Lib.hid (HB0.out.mod hmq (by simp))
    have C1 := Lib.hid (HB1.out.mod hmq (by simp))
    have M1 := Lib.hid (HM0.out.trans0 hmq)
    clear a0 a1 a2 a3 a4 a5 a6 a7 hmq
    obtain ⟨c0, c1, c2, c3⟩ := Blk4 C0.out
    obtain ⟨d0, d1, d2, d3⟩ := Blk4 C1.out
    go_wp2_with fail
    go_ret
    exact ⟨rfl, M1.out⟩
  · cases hn : Fl.nanB f
    · have LC := Lib.hid (fun w => refless_calls n' f b3 b4 hf hn w)
      have MC := Lib.hid (fun w => refmore_calls n' f b3 b4 hf hn w)
      rw [mixW_num n' f hn]
      rw [hn] at N1
      rcases cmp_cases (Fl.NV n') (Fl.SV f) with ⟨hc, e⟩ | ⟨hc, e⟩ | ⟨hc, e⟩
      all_goals
        rw [e]
        clear e
        first | (rw [decide_eq_true hc] at LC; rw [decide_eq_false (by omega)] at MC) | (rw [decide_eq_false (by omega)] at LC; rw [decide_eq_false (by omega)] at MC) | (rw [decide_eq_false (by omega)] at LC; rw [decide_eq_true hc] at MC)
        clear hc hn
        go_enter Try.func39, Try.ntmps39
        go_wp2_with fail
        generalize (w.alloc _).alloc _ = W at HB0 HB1 HM0 ⊢
        obtain ⟨a0, a1, a2, a3⟩ := BlkA HB0.out
        obtain ⟨a4, a5, a6, a7⟩ := BlkA HB1.out
        (refine wp_region_quiet_after (by kernel_rfl) (by kernel_rfl) ?_; (repeat (go_big_quiet_step (fail))); refine wpQuiet_nil ?_; intro _ hw'; obtain ⟨⟨wq, hmq⟩, hw''⟩ := hw'; subst hw'')
        have C0 := Lib.hid (HB0.out.mod hmq (by simp))
        have C1 := Lib.hid (HB1.out.mod hmq (by simp))
        have M1 := Lib.hid (HM0.out.trans0 hmq)
        clear a0 a1 a2 a3 a4 a5 a6 a7 hmq
        obtain ⟨c0, c1, c2, c3⟩ := Blk4 C0.out
        obtain ⟨d0, d1, d2, d3⟩ := Blk4 C1.out
        go_wp2_with fail
        refine (N1.out _).mono ?_
        rintro e w2 ⟨rfl, rfl⟩
        go_wp2_with fail
        obtain ⟨a0, a1, a2, a3⟩ := BlkA C0.out
        obtain ⟨a4, a5, a6, a7⟩ := BlkA C1.out
        (refine wp_region_quiet_after (by kernel_rfl) (by kernel_rfl) ?_; (repeat (go_big_quiet_step ((first | (with_reducible refine after_same (LC.out _)) | (with_reducible refine after_same (MC.out _)))))); refine wpQuiet_nil ?_; intro _ hw'; obtain ⟨⟨wq, hmq⟩, hw''⟩ := hw'; subst hw'')
        have M2 := Lib.hid (M1.out.trans0 hmq)
        go_wp2_with fail
        go_ret
        exact ⟨rfl, M2.out⟩
    · rw [mixW_nan n' f hn]
      rw [hn] at N1
      clear hn
      go_enter Try.func39, Try.ntmps39
      go_wp2_with fail
      generalize (w.alloc _).alloc _ = W at HB0 HB1 HM0 ⊢
      obtain ⟨a0, a1, a2, a3⟩ := BlkA HB0.out
      obtain ⟨a4, a5, a6, a7⟩ := BlkA HB1.out
      (refine wp_region_quiet_after (by kernel_rfl) (by kernel_rfl) ?_; (repeat (go_big_quiet_step (fail))); refine wpQuiet_nil ?_; intro _ hw'; obtain ⟨⟨wq, hmq⟩, hw''⟩ := hw'; subst hw'')
      have C0 := Lib.hid (HB0.out.mod hmq (by simp))
      have C1 := Lib.hid (HB1.out.mod hmq (by simp))
      have M1 := Lib.hid (HM0.out.trans0 hmq)
      clear a0 a1 a2 a3 a4 a5 a6 a7 hmq
      obtain ⟨c0, c1, c2, c3⟩ := Blk4 C0.out
      obtain ⟨d0, d1, d2, d3⟩ := Blk4 C1.out
      go_wp2_with fail
      refine (N1.out _).mono ?_
      rintro e w2 ⟨rfl, rfl⟩
      go_wp2_with fail
      go_ret
      exact ⟨rfl, M1.out⟩
  · have B1 := Lib.hid (fun w => below_calls f f' hf hf' w)
    have B2 := Lib.hid (fun w => below_calls f' f hf' hf w)
    unfold Fl.belowB at B1 B2
    simp only [Fl.SV_lt] at B1 B2
    unfold realW
    cases hn : Fl.nanB f
    · rw [hn] at N1
      cases hn' : Fl.nanB f'
      · rw [hn'] at N2
        rcases cmp_cases (Fl.SV f) (Fl.SV f') with ⟨hc, e⟩ | ⟨hc, e⟩ | ⟨hc, e⟩
        all_goals
          rw [e]
          clear e
          first | (rw [decide_eq_true hc] at B1; rw [decide_eq_false (by omega)] at B2) | (rw [decide_eq_false (by omega)] at B1; rw [decide_eq_false (by omega)] at B2) | (rw [decide_eq_false (by omega)] at B1; rw [decide_eq_true hc] at B2)
          clear hc hn hn'
          go_enter Try.func39, Try.ntmps39
          go_wp2_with fail
          generalize (w.alloc _).alloc _ = W at HB0 HB1 HM0 ⊢
          obtain ⟨a0, a1, a2, a3⟩ := BlkA HB0.out
          obtain ⟨a4, a5, a6, a7⟩ := BlkA HB1.out
          (refine wp_region_quiet_after (by kernel_rfl) (by kernel_rfl) ?_; (repeat (go_big_quiet_step (fail))); refine wpQuiet_nil ?_; intro _ hw'; obtain ⟨⟨wq, hmq⟩, hw''⟩ := hw'; subst hw'')
          have C0 := Lib.hid (HB0.out.mod hmq (by simp))
          have C1 := Lib.hid (HB1.out.mod hmq (by simp))
          have M1 := Lib.hid (HM0.out.trans0 hmq)
          clear a0 a1 a2 a3 a4 a5 a6 a7 hmq
          obtain ⟨c0, c1, c2, c3⟩ := Blk4 C0.out
          obtain ⟨d0, d1, d2, d3⟩ := Blk4 C1.out
          go_wp2_with fail
          refine (N1.out _).mono ?_
          rintro e w2 ⟨rfl, rfl⟩
          go_wp2_with fail
          refine (N2.out _).mono ?_
          rintro e w2 ⟨rfl, rfl⟩
          go_wp2_with fail
          refine (B1.out _).mono ?_
          rintro e w2 ⟨rfl, rfl⟩
          go_wp2_with fail
          refine (B2.out _).mono ?_
          rintro e w2 ⟨rfl, rfl⟩
          go_wp2_with fail
          go_ret
          exact ⟨rfl, M1.out⟩
      · rw [hn'] at N2
        clear hn hn'
        go_enter Try.func39, Try.ntmps39
        go_wp2_with fail
        generalize (w.alloc _).alloc _ = W at HB0 HB1 HM0 ⊢
        obtain ⟨a0, a1, a2, a3⟩ := BlkA HB0.out
        obtain ⟨a4, a5, a6, a7⟩ := BlkA HB1.out
        (refine wp_region_quiet_after (by kernel_rfl) (by kernel_rfl) ?_; (repeat (go_big_quiet_step (fail))); refine wpQuiet_nil ?_; intro _ hw'; obtain ⟨⟨wq, hmq⟩, hw''⟩ := hw'; subst hw'')
        have C0 := Lib.hid (HB0.out.mod hmq (by simp))
        have C1 := Lib.hid (HB1.out.mod hmq (by simp))
        have M1 := Lib.hid (HM0.out.trans0 hmq)
        clear a0 a1 a2 a3 a4 a5 a6 a7 hmq
        obtain ⟨c0, c1, c2, c3⟩ := Blk4 C0.out
        obtain ⟨d0, d1, d2, d3⟩ := Blk4 C1.out
        go_wp2_with fail
        refine (N1.out _).mono ?_
        rintro e w2 ⟨rfl, rfl⟩
        go_wp2_with fail
        refine (N2.out _).mono ?_
        rintro e w2 ⟨rfl, rfl⟩
        go_wp2_with fail
        go_ret
        exact ⟨rfl, M1.out⟩
    · rw [hn] at N1
      clear hn
      go_enter Try.func39, Try.ntmps39
      go_wp2_with fail
      generalize (w.alloc _).alloc _ = W at HB0 HB1 HM0 ⊢
      obtain ⟨a0, a1, a2, a3⟩ := BlkA HB0.out
      obtain ⟨a4, a5, a6, a7⟩ := BlkA HB1.out
      (refine wp_region_quiet_after (by kernel_rfl) (by kernel_rfl) ?_; (repeat (go_big_quiet_step (fail))); refine wpQuiet_nil ?_; intro _ hw'; obtain ⟨⟨wq, hmq⟩, hw''⟩ := hw'; subst hw'')
      have C0 := Lib.hid (HB0.out.mod hmq (by simp))
      have C1 := Lib.hid (HB1.out.mod hmq (by simp))
      have M1 := Lib.hid (HM0.out.trans0 hmq)
      clear a0 a1 a2 a3 a4 a5 a6 a7 hmq
      obtain ⟨c0, c1, c2, c3⟩ := Blk4 C0.out
      obtain ⟨d0, d1, d2, d3⟩ := Blk4 C1.out
      go_wp2_with fail
      refine (N1.out _).mono ?_
      rintro e w2 ⟨rfl, rfl⟩
      go_wp2_with fail
      go_ret
      exact ⟨rfl, M1.out⟩
  · go_enter Try.func39, Try.ntmps39
    go_wp2_with fail
    generalize (w.alloc _).alloc _ = W at HB0 HB1 HM0 ⊢
    obtain ⟨a0, a1, a2, a3⟩ := BlkA HB0.out
    obtain ⟨a4, a5, a6, a7⟩ := BlkA HB1.out
    (refine wp_region_quiet_after (by kernel_rfl) (by kernel_rfl) ?_; (repeat (go_big_quiet_step (fail))); refine wpQuiet_nil ?_; intro _ hw'; obtain ⟨⟨wq, hmq⟩, hw''⟩ := hw'; subst hw'')
    have C0 := Lib.hid (HB0.out.mod hmq (by simp))
    have C1 := Lib.hid (HB1.out.mod hmq (by simp))
    have M1 := Lib.hid (HM0.out.trans0 hmq)
    clear a0 a1 a2 a3 a4 a5 a6 a7 hmq
    obtain ⟨c0, c1, c2, c3⟩ := Blk4 C0.out
    obtain ⟨d0, d1, d2, d3⟩ := Blk4 C1.out
    go_wp2_with fail
    go_ret
    exact ⟨rfl, M1.out⟩
  · go_enter Try.func39, Try.ntmps39
    go_wp2_with fail
    generalize (w.alloc _).alloc _ = W at HB0 HB1 HM0 ⊢
    obtain ⟨a0, a1, a2, a3⟩ := BlkA HB0.out
    obtain ⟨a4, a5, a6, a7⟩ := BlkA HB1.out
    (refine wp_region_quiet_after (by kernel_rfl) (by kernel_rfl) ?_; (repeat (go_big_quiet_step (fail))); refine wpQuiet_nil ?_; intro _ hw'; obtain ⟨⟨wq, hmq⟩, hw''⟩ := hw'; subst hw'')
    have C0 := Lib.hid (HB0.out.mod hmq (by simp))
    have C1 := Lib.hid (HB1.out.mod hmq (by simp))
    have M1 := Lib.hid (HM0.out.trans0 hmq)
    clear a0 a1 a2 a3 a4 a5 a6 a7 hmq
    obtain ⟨c0, c1, c2, c3⟩ := Blk4 C0.out
    obtain ⟨d0, d1, d2, d3⟩ := Blk4 C1.out
    go_wp2_with fail
    go_ret
    exact ⟨rfl, M1.out⟩
  · go_enter Try.func39, Try.ntmps39
    go_wp2_with fail
    generalize (w.alloc _).alloc _ = W at HB0 HB1 HM0 ⊢
    obtain ⟨a0, a1, a2, a3⟩ := BlkA HB0.out
    obtain ⟨a4, a5, a6, a7⟩ := BlkA HB1.out
    (refine wp_region_quiet_after (by kernel_rfl) (by kernel_rfl) ?_; (repeat (go_big_quiet_step (fail))); refine wpQuiet_nil ?_; intro _ hw'; obtain ⟨⟨wq, hmq⟩, hw''⟩ := hw'; subst hw'')
    have C0 := Lib.hid (HB0.out.mod hmq (by simp))
    have C1 := Lib.hid (HB1.out.mod hmq (by simp))
    have M1 := Lib.hid (HM0.out.trans0 hmq)
    clear a0 a1 a2 a3 a4 a5 a6 a7 hmq
    obtain ⟨c0, c1, c2, c3⟩ := Blk4 C0.out
    obtain ⟨d0, d1, d2, d3⟩ := Blk4 C1.out
    go_wp2_with fail
    go_ret
    exact ⟨rfl, M1.out⟩
  · unfold cmpS
    cases h1 : Op.bytesLess s.toList s'.toList
    · cases h2 : (s.toList == s'.toList)
      all_goals
        go_enter Try.func39, Try.ntmps39
        go_wp2_with fail
        generalize (w.alloc _).alloc _ = W at HB0 HB1 HM0 ⊢
        obtain ⟨a0, a1, a2, a3⟩ := BlkA HB0.out
        obtain ⟨a4, a5, a6, a7⟩ := BlkA HB1.out
        (refine wp_region_quiet_after (by kernel_rfl) (by kernel_rfl) ?_; (repeat (go_big_quiet_step (fail))); refine wpQuiet_nil ?_; intro _ hw'; obtain ⟨⟨wq, hmq⟩, hw''⟩ := hw'; subst hw'')
        have C0 := Lib.hid (HB0.out.mod hmq (by simp))
        have C1 := Lib.hid (HB1.out.mod hmq (by simp))
        have M1 := Lib.hid (HM0.out.trans0 hmq)
        clear a0 a1 a2 a3 a4 a5 a6 a7 hmq
        obtain ⟨c0, c1, c2, c3⟩ := Blk4 C0.out
        obtain ⟨d0, d1, d2, d3⟩ := Blk4 C1.out
        go_wp2_with fail
        obtain ⟨a0, a1, a2, a3⟩ := BlkA C0.out
        obtain ⟨a4, a5, a6, a7⟩ := BlkA C1.out
        (refine wp_region_quiet_after (by kernel_rfl) (by kernel_rfl) ?_; (repeat (go_big_quiet_step (fail))); refine wpQuiet_nil ?_; intro _ hw'; obtain ⟨⟨wq, hmq⟩, hw''⟩ := hw'; subst hw'')
        have M2 := Lib.hid (M1.out.trans0 hmq)
        go_wp2_with fail
        go_ret
        exact ⟨rfl, M2.out⟩
    · go_enter Try.func39, Try.ntmps39
      go_wp2_with fail
      generalize (w.alloc _).alloc _ = W at HB0 HB1 HM0 ⊢
      obtain ⟨a0, a1, a2, a3⟩ := BlkA HB0.out
      obtain ⟨a4, a5, a6, a7⟩ := BlkA HB1.out
      (refine wp_region_quiet_after (by kernel_rfl) (by kernel_rfl) ?_; (repeat (go_big_quiet_step (fail))); refine wpQuiet_nil ?_; intro _ hw'; obtain ⟨⟨wq, hmq⟩, hw''⟩ := hw'; subst hw'')
      have C0 := Lib.hid (HB0.out.mod hmq (by simp))
      have C1 := Lib.hid (HB1.out.mod hmq (by simp))
      have M1 := Lib.hid (HM0.out.trans0 hmq)
      clear a0 a1 a2 a3 a4 a5 a6 a7 hmq
      obtain ⟨c0, c1, c2, c3⟩ := Blk4 C0.out
      obtain ⟨d0, d1, d2, d3⟩ := Blk4 C1.out
      go_wp2_with fail
      obtain ⟨a0, a1, a2, a3⟩ := BlkA C0.out
      obtain ⟨a4, a5, a6, a7⟩ := BlkA C1.out
      (refine wp_region_quiet_after (by kernel_rfl) (by kernel_rfl) ?_; (repeat (go_big_quiet_step (fail))); refine wpQuiet_nil ?_; intro _ hw'; obtain ⟨⟨wq, hmq⟩, hw''⟩ := hw'; subst hw'')
      have M2 := Lib.hid (M1.out.trans0 hmq)
      go_wp2_with fail
      go_ret
      exact ⟨rfl, M2.out⟩
end Go.Proofs.Ytdmipmkgoefidaa.EvH
