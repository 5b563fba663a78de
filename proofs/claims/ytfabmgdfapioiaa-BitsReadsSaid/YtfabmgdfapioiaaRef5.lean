/- The contract of the reference tape's real numbers. -/
import Derived.Test.YtfabmgdfapioiaaRef4
namespace Go.Proofs.Ytfabmgdfapioiaa.Bits
open Go.RowKit Mem
set_option linter.unusedSimpArgs false
set_option linter.unusedVariables false
set_option maxRecDepth 100000

theorem canB_ne (v : Nat) : ((canB v : Int) != (v : Int)) = decide (Fl.nanB v = true ∧ v ≠ 9221120237041090561) := by
  unfold canB
  rw [Bool.eq_iff_iff, bne_iff_ne, decide_eq_true_iff]
  split
  · rename_i h; simp only [h, true_and]; omega
  · rename_i h; simp only [h]; simp

set_option maxHeartbeats 2000000 in
theorem rReal_calls (s : ByteArray) (e0 : Int) (w : World) (hs : s.size ≤ 140737488355328) :
    Calls Try.prog 21 #[tapeV s e0] w fun e w' => e = .returned (.tuple #[tapeV (realR s e0).2.1 (realR s e0).2.2, .float .f64 (realR s e0).1]) ∧ Mod w w' [] := by
  have HB0 := Lib.hid ((Blk.new w #[.string s, .int .i64 e0] 26).alloc (.cells #[.string ⟨#[]⟩, .int .i64 0] 26))
  have hb1 := Blk.new (w.alloc (.cells #[.string s, .int .i64 e0] 26)) #[.string ⟨#[]⟩, .int .i64 0] 26
  rw [World.size_alloc] at hb1
  have HB1 := Lib.hid hb1
  have HM0 := Lib.hid (((Mod.refl w []).alloc (.cells #[.string s, .int .i64 e0] 26)).alloc (.cells #[.string ⟨#[]⟩, .int .i64 0] 26))
  clear hb1
  have hs' : (s.size : Int) ≤ 140737488355328 := by omega
  by_cases h0 : e0 = 0
  case neg =>
    have hne : (e0 != 0) = true := by rw [bne_iff_ne]; exact h0
    have hR : realR s e0 = (0, s, e0) := by unfold realR; rw [if_pos h0]
    rw [hR]
    clear hR h0
    go_enter Try.func21, Try.ntmps21
    go_wp2_with fail
    refine bodyPost_ret (v := .tuple #[tapeV s e0, .float .f64 0]) (by simp [results, Try.results21, go_sem]) rfl ⟨rfl, ?_⟩
    exact ((Mod.refl _ _).alloc _).alloc _
  subst h0
  by_cases h8 : s.size < 8
  · have hR : realR s 0 = (0, s, 5) := by unfold realR; rw [if_neg (by simp), if_pos h8]
    rw [hR]
    have h8' : (s.size : Int) < 8 := by omega
    clear hR h8
    go_enter Try.func21, Try.ntmps21
    go_wp2_with fail
    refine bodyPost_ret (v := .tuple #[tapeV s 5, .float .f64 0]) (by simp [results, Try.results21, go_sem]) rfl ⟨rfl, ?_⟩
    exact ((Mod.refl _ _).alloc _).alloc _
  have h8' : 8 ≤ (s.size : Int) := by omega
  have hR : realR s 0 = if Fl.nanB (Bt.val (Bt.bytesOf s 0 8) 0) = true ∧ Bt.val (Bt.bytesOf s 0 8) 0 ≠ 9221120237041090561 then (0, s, 3) else (Bt.val (Bt.bytesOf s 0 8) 0, s.extract 8 s.size, 0) := by
    unfold realR; rw [if_neg (by simp), if_neg h8]
  have hvb := fun i (hi : i ≤ 8) => val_bd0 s 8 i hi (by omega)
  have hstep := fun i hi => Bt.bytesOf_step s 0 8 i hi (by omega)
  have hall : (Bt.bytesOf s 0 8).take 8 = Bt.bytesOf s 0 8 := by rw [List.take_of_length_le]; rw [Bt.bytesOf_length s 0 8 (by omega)]; exact Nat.le_refl _
  have hgi : ∀ i, i < 8 → ∃ h : i < s.size, s[i].toNat = Bt.byt s i := fun i h => ⟨by omega, Bt.byt_get s i (by omega)⟩
  have HGI := Lib.hid hgi
  have HVB := Lib.hid hvb
  have HSTEP := Lib.hid hstep
  have HALL := Lib.hid hall
  have HR := Lib.hid hR
  have BC := Lib.hid (fun f w => refbits_calls f w)
  clear hvb hstep hall hgi hR h8
  go_enter Try.func21, Try.ntmps21
  go_wp2_with fail
  generalize (w.alloc _).alloc _ = W at HB0 HB1 HM0 ⊢
  obtain ⟨b0, b1, b2, b3⟩ := Blk2 HB0.out
  obtain ⟨c0, c1, c2, c3⟩ := Blk2 HB1.out
  go_loop [4, 5] (fun vx vj => ∃ j v : Nat, j ≤ 8 ∧ vj = .int .i64 (j : Int) ∧ vx = .int .u64 v ∧ Hid (v = Bt.val ((Bt.bytesOf s 0 8).take j) 0)) (fun _ vj => 9 - (intOf vj).toNat)
  case atStart => exact ⟨0, 0, by omega, rfl, rfl, Lib.hid rfl⟩
  case round =>
    obtain ⟨j, v, hj, rfl, rfl, HV⟩ := hrel
    by_cases hlt : j < 8
    · have hvlt : v < 256 ^ 7 := by
        rw [HV.out]
        exact Nat.lt_of_lt_of_le (HVB.out j (by omega)) (Nat.pow_le_pow_right (by decide) (by omega))
      have hb := Bt.byt_lt s j
      obtain ⟨hsz, hgj⟩ := HGI.out j hlt
      have hw : IntKind.u64.wrap (256 * (v : Int)) = 256 * (v : Int) := IntWalk.u64_in _ (by omega)
      have hw3 : IntKind.u64.wrap (256 * (v : Int) + (Bt.byt s j : Int)) = 256 * (v : Int) + (Bt.byt s j : Int) := IntWalk.u64_in _ (by omega)
      have hlt' : (j : Int) < 8 := by omega
      have HB := Lib.hid hvlt
      clear hvlt
      generalize hbb : Bt.byt s j = b at *
      have HBB := Lib.hid hbb
      clear hbb
      go_wp2_with fail
      go_round
      case rel =>
        refine ⟨j + 1, 256 * v + b, by omega, by go_num, rfl, Lib.hid ?_⟩
        rw [HSTEP.out j hlt, Bt.val_append, ← HV.out, Nat.zero_add, HBB.out]
        simp [Bt.val]
      case measure => simp [intOf]; omega
    · obtain rfl : j = 8 := by omega
      have HV2 : Hid (v = Bt.val (Bt.bytesOf s 0 8) 0) := Lib.hid (by rw [HV.out, HALL.out])
      have hr := HR.out
      rw [← HV2.out] at hr
      have hvlt : (v : Int) < 18446744073709551616 := by
        have h1 := HVB.out 8 (Nat.le_refl _)
        rw [← HV.out] at h1
        omega
      have BV := Lib.hid (fun w => BC.out v w)
      have hcb := canB_ne v
      by_cases z : Fl.nanB v = true ∧ v ≠ 9221120237041090561
      · rw [if_pos z] at hr
        rw [decide_eq_true z] at hcb
        have HRR := Lib.hid hr
        clear hr z
        generalize canB v = cb at *
        go_wp2_with fail
        refine (BV.out _).mono ?_
        rintro e w1 ⟨rfl, rfl⟩
        go_wp2_with fail
        refine bodyPost_ret (v := .tuple #[tapeV s 3, .float .f64 0]) (by simp [results, Try.results21, go_sem, c0, c1]) rfl ⟨by rw [HRR.out], ?_⟩
        exact (HM0.out.setCell (p := ⟨w.heap.size + 1, 0, none⟩) (.inr (Nat.le_succ _)) _).setCell (p := ⟨w.heap.size + 1, 1, none⟩) (.inr (Nat.le_succ _)) _
      · rw [if_neg z] at hr
        rw [decide_eq_false z] at hcb
        have HRR := Lib.hid hr
        clear hr z
        generalize canB v = cb at *
        go_wp2_with fail
        refine (BV.out _).mono ?_
        rintro e w1 ⟨rfl, rfl⟩
        go_wp2_with fail
        refine bodyPost_ret (v := .tuple #[tapeV (s.extract 8 s.size) 0, .float .f64 v]) (by simp [results, Try.results21, go_sem, c0, c1]) rfl ⟨by rw [HRR.out], ?_⟩
        exact (HM0.out.setCell (p := ⟨w.heap.size + 1, 0, none⟩) (.inr (Nat.le_succ _)) _).setCell (p := ⟨w.heap.size + 1, 1, none⟩) (.inr (Nat.le_succ _)) _
end Go.Proofs.Ytfabmgdfapioiaa.Bits
