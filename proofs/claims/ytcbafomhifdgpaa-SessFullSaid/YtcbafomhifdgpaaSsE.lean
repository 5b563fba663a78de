/- The law SessFull. -/
import Derived.Test.YtcbafomhifdgpaaSsD
import Derived.Test.YtcbafomhifdgpaaSs8
namespace Go.Proofs.Ytcbafomhifdgpaa.Ss
open Go.RowKit Mem Si Bits
set_option linter.unusedSimpArgs false
set_option linter.unusedVariables false
set_option maxRecDepth 100000

set_option maxHeartbeats 4000000 in
theorem sessFull_calls (w : World) (a : Int) (ha : (Lit.int .i64 a).wf = true) (b : Int) (hb : (Lit.int .i64 b).wf = true) :
    Calls Try.prog 8 #[.int .i64 a, .int .i64 b] w fun e w' => e = .returned (.bool true) ∧ Below w.heap.size w w' := by
  obtain ⟨a1, a2⟩ : -9223372036854775808 ≤ a ∧ a ≤ 9223372036854775807 := by simpa [Lit.wf, IntKind.min, IntKind.max, IntKind.signed, IntKind.bits] using ha
  obtain ⟨b1, b2⟩ : -9223372036854775808 ≤ b ∧ b ≤ 9223372036854775807 := by simpa [Lit.wf, IntKind.min, IntKind.max, IntKind.signed, IntKind.bits] using hb
  have AW := Lib.hid awake_calls
  have NW := Lib.hid new_calls
  have NT := Lib.hid (new_tab w)
  have HM0 := Lib.hid ((Mod.refl w []).alloc (.cells #[.slice none 0 0] 101))
  obtain ⟨r, hr⟩ : ∃ r, a.tmod 1000 = r := ⟨_, rfl⟩
  have hr1 : -1000 < r := by rw [← hr]; exact Int.lt_tmod_of_pos a (by decide)
  have hr2 : r < 1000 := by rw [← hr]; exact Int.tmod_lt_of_pos a (by decide)
  obtain ⟨s, hs⟩ : ∃ s, (r + 1000).tmod 1000 = s := ⟨_, rfl⟩
  have hs0 : s = (r + 1000) % 1000 := by rw [← hs]; exact Int.tmod_eq_emod_of_nonneg (by omega)
  have hs1 : 0 ≤ s := by omega
  have hs2 : s < 1000 := by omega
  obtain ⟨q, hq⟩ : ∃ q, b.tmod 32 = q := ⟨_, rfl⟩
  have hq1 : -32 < q := by rw [← hq]; exact Int.lt_tmod_of_pos b (by decide)
  have hq2 : q < 32 := by rw [← hq]; exact Int.tmod_lt_of_pos b (by decide)
  obtain ⟨c, hc⟩ : ∃ c : Nat, (q + 32).tmod 32 = (c : Int) := ⟨((q + 32) % 32).toNat, by rw [Int.tmod_eq_emod_of_nonneg (by omega)]; omega⟩
  have hc2 : c < 32 := by
    have h : ((q + 32).tmod 32) = (q + 32) % 32 := Int.tmod_eq_emod_of_nonneg (by omega)
    omega
  have hc2' : (c : Int) < 32 := by omega
  have FF := Lib.hid (full_facts (1 + s) (by omega) (by omega) c hc2 _ _ rfl rfl)
  have FM := Lib.hid (fl_may (1 + s) (by omega) (by omega) c hc2)
  have FG := Lib.hid (fun i hi => fl_good (1 + s) (by omega) (by omega) i hi)
  have O1 : Hid (∀ (i : Nat) (hi : i < 32) (t : Nat) (v : Value) (w : World), TabAt w t v (fl (1 + s) i) → Calls Try.prog 22 #[.pointer (some ⟨t, 0, none⟩), .int .i64 (1 + s + 2 * (i : Int))] w fun e w' => e = .returned (.int .i64 0) ∧ TabP t v (fl (1 + s) (i + 1)) w w') :=
    Lib.hid (fun i hi t v w h => by
      have h := open_calls t v (fl (1 + s) i) (1 + s + 2 * (i : Int)) w h (by rw [fl_len]; omega) (fl_good (1 + s) (by omega) (by omega) i (by omega)).up
      rw [fl_open (1 + s) (by omega) (by omega) i hi] at h
      exact h)
  clear ha hb hs0
  go_enter Try.func8, Try.ntmps8
  go_wp2_with fail
  (with_reducible refine (NW.out _).mono ?_)
  rintro e w1 ⟨rfl, hw1⟩
  rw [← hw1] at NT HM0
  clear hw1
  go_wp2_with fail
  (with_reducible refine (AW.out _).mono ?_)
  rintro e w2 ⟨rfl, hm2⟩
  have HM2 := Lib.hid (HM0.out.trans0 hm2)
  have HT2 := Lib.hid (NT.out.mod hm2 (by simp) (by simp))
  clear hm2 NT HM0
  go_wp2_with fail
  go_loopw [6] (fun vi wr => ∃ i : Nat, i ≤ 32 ∧ vi = .int .i64 (i : Int) ∧ Mod w wr [] ∧ ∃ v, TabAt wr w.heap.size v (fl (1 + s) i)) (fun vi _ => 33 - (intOf vi).toNat)
  case atStart => exact ⟨0, by omega, rfl, HM2.out, _, HT2.out⟩
  case round =>
    obtain ⟨i, hi, rfl, hm, v, ht⟩ := hrel
    have HM := Lib.hid hm
    have HT := Lib.hid ht
    clear hm ht HM2 HT2
    by_cases hlt : i < 32
    · have hlt' : (i : Int) < 32 := by omega
      have O2 := Lib.hid (O1.out i hlt _ _ _ HT.out)
      go_wp2_with fail
      (with_reducible refine (O2.out).mono ?_)
      rintro e w4 ⟨rfl, h4⟩
      obtain ⟨v4, T4, M4⟩ := tab_step HM.out (Nat.le_refl _) HT.out h4
      have HT4 := Lib.hid T4
      have HM4 := Lib.hid M4
      clear h4 T4 M4 HT HM O2
      go_wp2_with fail
      go_roundw
      case rel => exact ⟨i + 1, by omega, by go_num, HM4.out, v4, HT4.out⟩
      case measure => simp [intOf]; omega
    · obtain rfl : i = 32 := by omega
      have K := Lib.hid (take_calls _ v (fl (1 + s) 32) (1 + s + 2 * (c : Int)) 1 wr HT.out (by rw [fl_len]; omega) (FG.out 32 (by omega)).up)
      rw [FM.out] at K
      dsimp only at K
      generalize takeL (fl (1 + s) 32) (1 + s + 2 * (c : Int)) 1 = l2 at *
      generalize delL l2 (1 + s + 2 * (c : Int)) = l3 at *
      obtain ⟨g2, g3, f1, f2, f3, f4, f5, f6⟩ := FF.out
      have P1 : Hid (∀ (t : Nat) (v : Value) (w : World), TabAt w t v l2 → Calls Try.prog 22 #[.pointer (some ⟨t, 0, none⟩), .int .i64 (1 + s + 1)] w fun e w' => e = .returned (.int .i64 7) ∧ TabP t v l2 w w') :=
        Lib.hid (fun t v w h => by
          have h := open_calls t v l2 (1 + s + 1) w h (by have := g2.len; omega) g2.up
          rw [f1] at h
          exact h)
      have P2 : Hid (∀ (t : Nat) (v : Value) (w : World), TabAt w t v l2 → Calls Try.prog 22 #[.pointer (some ⟨t, 0, none⟩), .int .i64 (1 + s + 2 * (c : Int))] w fun e w' => e = .returned (.int .i64 9) ∧ TabP t v l2 w w') :=
        Lib.hid (fun t v w h => by
          have h := open_calls t v l2 (1 + s + 2 * (c : Int)) w h (by have := g2.len; omega) g2.up
          rw [f2] at h
          exact h)
      have P3 : Hid (∀ (t : Nat) (v : Value) (w : World), TabAt w t v l2 → Calls Try.prog 28 #[.pointer (some ⟨t, 0, none⟩), .int .i64 (1 + s + 2 * (c : Int))] w fun e w' => e = .returned (.int .i64 0) ∧ TabP t v l3 w w') :=
        Lib.hid (fun t v w h => by
          have h := close_calls t v l2 (1 + s + 2 * (c : Int)) w h (by have := g2.len; omega) g2.up
          rw [f3] at h
          exact h)
      have P4 : Hid (∀ (t : Nat) (v : Value) (w : World), TabAt w t v l3 → Calls Try.prog 28 #[.pointer (some ⟨t, 0, none⟩), .int .i64 (1 + s + 2 * (c : Int))] w fun e w' => e = .returned (.int .i64 4) ∧ TabP t v l3 w w') :=
        Lib.hid (fun t v w h => by
          have h := close_calls t v l3 (1 + s + 2 * (c : Int)) w h (by have := g3.len; omega) g3.up
          rw [f4] at h
          exact h)
      have P5 : Hid (∀ (t : Nat) (v : Value) (w : World), TabAt w t v l3 → Calls Try.prog 22 #[.pointer (some ⟨t, 0, none⟩), .int .i64 (1 + s + 1)] w fun e w' => e = .returned (.int .i64 0) ∧ TabP t v (openL l3 (1 + s + 1)).1 w w') :=
        Lib.hid (fun t v w h => by
          have h := open_calls t v l3 (1 + s + 1) w h (by have := g3.len; omega) g3.up
          rw [f5] at h
          exact h)
      generalize (openL l3 (1 + s + 1)).1 = l4 at *
      have AL := Lib.hid (fun t v w h => all_calls t v l4 w h (by omega))
      have F6 := Lib.hid f6
      clear f1 f2 f3 f4 f5 f6 g2 g3 FF FM FG O1
      go_wp2_with fail
      (with_reducible refine (K.out).mono ?_)
      rintro e x1 ⟨rfl, h4⟩
      obtain ⟨v1, T4, M4⟩ := tab_step HM.out (Nat.le_refl _) HT.out h4
      have HT1 := Lib.hid T4
      have HM1 := Lib.hid M4
      clear h4 T4 M4 HT HM K
      go_wp2_with fail
      (with_reducible refine (P1.out _ _ _ HT1.out).mono ?_)
      rintro e x2 ⟨rfl, h4⟩
      obtain ⟨v2, T4, M4⟩ := tab_step HM1.out (Nat.le_refl _) HT1.out h4
      have HT2 := Lib.hid T4
      have HM2 := Lib.hid M4
      clear h4 T4 M4 HT1 HM1
      go_wp2_with fail
      (with_reducible refine (P2.out _ _ _ HT2.out).mono ?_)
      rintro e x3 ⟨rfl, h4⟩
      obtain ⟨v3, T4, M4⟩ := tab_step HM2.out (Nat.le_refl _) HT2.out h4
      have HT3 := Lib.hid T4
      have HM3 := Lib.hid M4
      clear h4 T4 M4 HT2 HM2
      go_wp2_with fail
      (with_reducible refine (P3.out _ _ _ HT3.out).mono ?_)
      rintro e x4 ⟨rfl, h4⟩
      obtain ⟨v4, T4, M4⟩ := tab_step HM3.out (Nat.le_refl _) HT3.out h4
      have HT4 := Lib.hid T4
      have HM4 := Lib.hid M4
      clear h4 T4 M4 HT3 HM3
      go_wp2_with fail
      (with_reducible refine (P4.out _ _ _ HT4.out).mono ?_)
      rintro e x5 ⟨rfl, h4⟩
      obtain ⟨v5, T4, M4⟩ := tab_step HM4.out (Nat.le_refl _) HT4.out h4
      have HT5 := Lib.hid T4
      have HM5 := Lib.hid M4
      clear h4 T4 M4 HT4 HM4
      go_wp2_with fail
      (with_reducible refine (P5.out _ _ _ HT5.out).mono ?_)
      rintro e x6 ⟨rfl, h4⟩
      obtain ⟨v6, T4, M4⟩ := tab_step HM5.out (Nat.le_refl _) HT5.out h4
      have HT6 := Lib.hid T4
      have HM6 := Lib.hid M4
      clear h4 T4 M4 HT5 HM5
      go_wp2_with fail
      (with_reducible refine (AL.out _ _ _ HT6.out).mono ?_)
      rintro e x7 ⟨vr, rfl, hm7, hr7⟩
      have HM7 := Lib.hid (HM6.out.trans0 hm7)
      obtain ⟨ra, rc, hrv⟩ := Rw.own_slice hr7
      rw [F6.out] at hrv
      subst hrv
      clear hm7 hr7
      go_wp2_with fail
      go_ret
      exact ⟨rfl, HM7.out.below0⟩
end Go.Proofs.Ytcbafomhifdgpaa.Ss
