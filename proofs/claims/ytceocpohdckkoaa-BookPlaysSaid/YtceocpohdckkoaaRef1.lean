/- The contract of the reference's front number. -/
import Derived.Test.YtceocpohdckkoaaBits4
import Derived.Test.YtceocpohdckkoaaQuiet
namespace Go.Proofs.Ytceocpohdckkoaa.Bits
open Go.RowKit Mem
set_option linter.unusedSimpArgs false
set_option linter.unusedVariables false
set_option maxRecDepth 100000

theorem str_eq (a b : ByteArray) : (a.toList == b.toList) = true ↔ a = b := by
  rw [beq_iff_eq, _root_.Go.ByteArray.toList_eq, _root_.Go.ByteArray.toList_eq]
  exact ⟨fun h => ByteArray.ext (Array.ext' h), fun h => by rw [h]⟩

set_option maxHeartbeats 1000000 in
theorem ahead_calls (s : ByteArray) (w : World) (hs : s.size ≤ 140737488355328) :
    Calls Try.prog 76 #[.string s] w fun e w' => e = .returned (.tuple #[.int .u64 (Bt.numD s).1, .int .i64 (Bt.numD s).2.1, .int .i64 (Bt.numD s).2.2]) ∧ Mod w w' [] := by
  by_cases h0 : s.size = 0
  · have he := isEmpty_zero s h0
    have hD : Bt.numD s = (0, 0, 5) := by unfold Bt.numD; rw [if_pos h0]
    rw [hD]; clear hD h0
    go_enter Try.func76, Try.ntmps76
    go_wp2
    go_ret3
    exact ⟨ret3 rfl rfl rfl, Mod.refl _ _⟩
  have hpos : 0 < s.size := by omega
  have he := isEmpty_size s hpos
  have hby := Bt.byt_lt s 0
  have hg0 : s[0].toNat = Bt.byt s 0 := Bt.byt_get s 0 hpos
  by_cases h1 : Bt.byt s 0 ≤ 247
  · have hD : Bt.numD s = (Bt.byt s 0, 1, 0) := by unfold Bt.numD; rw [if_neg h0, if_pos h1]
    rw [hD]; clear hD h0
    generalize Bt.byt s 0 = c at *
    have h1' : (c : Int) ≤ 247 := by omega
    go_enter Try.func76, Try.ntmps76
    go_wp2
    go_ret3
    exact ⟨ret3 rfl rfl rfl, Mod.refl _ _⟩
  obtain ⟨k, hk⟩ : ∃ k, Bt.byt s 0 = 247 + k := ⟨Bt.byt s 0 - 247, by omega⟩
  have hk1 : 1 ≤ k := by omega
  have hk8 : k ≤ 8 := by omega
  have hgk : (s[0].toNat : Int) = 247 + (k : Int) := by rw [hg0, hk]; omega
  have hw1 : 247 + (k : Int) - 247 = (k : Int) := by omega
  have hk1' : 1 ≤ (k : Int) := by omega
  have hk8' : (k : Int) ≤ 8 := by omega
  by_cases h2 : s.size ≤ k
  · have hD : Bt.numD s = (0, 0, 5) := by unfold Bt.numD; rw [if_neg h0, if_neg h1, if_pos (by omega)]
    rw [hD]; clear hD h0 h1 hg0 hby hk
    have h2' : (s.size : Int) - 1 < k := by omega
    go_enter Try.func76, Try.ntmps76
    go_wp2
    go_ret3
    exact ⟨ret3 rfl rfl rfl, Mod.refl _ _⟩
  have hform := Bt.form_iff s (by omega) (by omega)
  rw [show Bt.byt s 0 - 247 = k by omega] at hform
  have hvb := fun i hi => Bt.val_bd s k i hk8 hi (by omega)
  have hstep := fun i hi => Bt.bytesOf_step s 1 k i hi (by omega)
  have hall : (Bt.bytesOf s 1 k).take k = Bt.bytesOf s 1 k := by rw [List.take_of_length_le]; rw [Bt.bytesOf_length s 1 k (by omega)]; exact Nat.le_refl _
  have hgi : ∀ i, 1 ≤ i → i ≤ k → ∃ h : i < s.size, s[i].toNat = Bt.byt s i := fun i h hh => ⟨by omega, Bt.byt_get s i (by omega)⟩
  have HGI := Lib.hid hgi
  have HVB := Lib.hid hvb
  have HSTEP := Lib.hid hstep
  have HALL := Lib.hid hall
  have HFORM := Lib.hid hform
  have HD : Hid (Bt.numD s = if Bt.byt s 1 = 0 ∨ Bt.val (Bt.bytesOf s 1 k) 0 ≤ 247 then (0, 0, 3) else (Bt.val (Bt.bytesOf s 1 k) 0, k + 1, 0)) := Lib.hid (by
    unfold Bt.numD
    rw [if_neg h0, if_neg h1, if_neg (by omega), show Bt.byt s 0 - 247 = k by omega])
  have h2' : (k : Int) ≤ (s.size : Int) - 1 := by omega
  have h2'' : (k : Int) + 1 ≤ (s.size : Int) := by omega
  have hs' : (s.size : Int) ≤ 140737488355328 := by omega
  have RC := Lib.hid (fun n w hn => refnum_calls n hn w)
  clear hvb hstep hall hby h0 h1 h2 hg0 hk hform hgi
  go_enter Try.func76, Try.ntmps76
  go_wp2_with fail
  go_loop [6, 7] (fun vn vj => ∃ j v : Nat, j ≤ k ∧ vj = .int .i64 ((j : Int) + 1) ∧ vn = .int .u64 v ∧ Hid (v = Bt.val ((Bt.bytesOf s 1 k).take j) 0)) (fun _ vj => k + 1 - (intOf vj).toNat)
  case atStart => exact ⟨0, 0, by omega, rfl, rfl, Lib.hid rfl⟩
  case round =>
    obtain ⟨j, v, hj, rfl, rfl, HV⟩ := hrel
    by_cases hlt : j < k
    · have hvlt : v < 256 ^ 7 := by
        rw [HV.out]
        exact Nat.lt_of_lt_of_le (HVB.out j (by omega)) (Nat.pow_le_pow_right (by decide) (by omega))
      have hb := Bt.byt_lt s (1 + j)
      obtain ⟨hsz, hgj⟩ := HGI.out (1 + j) (by omega) (by omega)
      have hw : IntKind.u64.wrap (256 * (v : Int)) = 256 * (v : Int) := IntWalk.u64_in _ (by omega)
      have hw3 : IntKind.u64.wrap (256 * (v : Int) + (Bt.byt s (1 + j) : Int)) = 256 * (v : Int) + (Bt.byt s (1 + j) : Int) := IntWalk.u64_in _ (by omega)
      have hlt' : (j : Int) + 1 ≤ k := by omega
      have hix : ((j : Int) + 1).toNat = 1 + j := by omega
      have HB := Lib.hid hvlt
      clear hvlt
      generalize hbb : Bt.byt s (1 + j) = b at *
      have HBB := Lib.hid hbb
      clear hbb
      go_wp2
      go_round
      case rel =>
        refine ⟨j + 1, 256 * v + b, by omega, by go_num, rfl, Lib.hid ?_⟩
        rw [HSTEP.out j hlt, Bt.val_append, ← HV.out, HBB.out]
        simp [Bt.val]
      case measure => simp [intOf]; omega
    · obtain rfl : j = k := by omega
      have HV2 : Hid (v = Bt.val (Bt.bytesOf s 1 j) 0) := Lib.hid (by rw [HV.out, HALL.out])
      have hd := HD.out
      have hform := HFORM.out
      rw [← HV2.out] at hd hform
      have hvlt : v < 18446744073709551616 := by
        have h1 := HVB.out j (Nat.le_refl _)
        rw [← HV.out] at h1
        exact Nat.lt_of_lt_of_le h1 (Nat.pow_le_pow_right (by decide) hk8)
      have RV := Lib.hid (fun w => RC.out v w hvlt)
      have hwk : IntKind.i64.wrap ((j : Int) + 1) = (j : Int) + 1 := IntWalk.i64_in _ (by omega)
      have hto : ((j : Int) + 1).toNat = j + 1 := by omega
      by_cases z : Bt.byt s 1 = 0 ∨ v ≤ 247
      · have hne : ((Bt.numS v).toList == (s.extract 0 (j + 1)).toList) = false := by
          rw [← Bool.not_eq_true, str_eq]; intro h; exact (hform.1 h) z
        rw [if_pos z] at hd
        have HDD := Lib.hid hd
        clear hd z hform hvlt
        generalize Bt.numS v = S at *
        go_wp2
        (refine wp_region_quiet_after (by kernel_rfl) (by kernel_rfl) ?_; (repeat (go_big_quiet_step ((with_reducible refine after_of (RV.out _))))); refine wpQuiet_nil ?_; intro wq hw'; obtain ⟨⟨wq2, hmq⟩, hw''⟩ := hw'; subst hw'')
        go_wp2
        go_ret3
        exact ⟨by rw [HDD.out]; exact ret3 rfl rfl rfl, hmq⟩
      · have hne : ((Bt.numS v).toList == (s.extract 0 (j + 1)).toList) = true := by
          rw [str_eq]; exact hform.2 z
        rw [if_neg z] at hd
        have HDD := Lib.hid hd
        clear hd z hform hvlt
        generalize Bt.numS v = S at *
        go_wp2
        (refine wp_region_quiet_after (by kernel_rfl) (by kernel_rfl) ?_; (repeat (go_big_quiet_step ((with_reducible refine after_of (RV.out _))))); refine wpQuiet_nil ?_; intro wq hw'; obtain ⟨⟨wq2, hmq⟩, hw''⟩ := hw'; subst hw'')
        go_wp2
        go_ret3
        exact ⟨by rw [HDD.out]; exact ret3 rfl rfl rfl, hmq⟩
end Go.Proofs.Ytceocpohdckkoaa.Bits
