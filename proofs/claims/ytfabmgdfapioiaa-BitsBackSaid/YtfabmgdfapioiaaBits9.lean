/- The contract of a tape's real number. -/
import Derived.Test.YtfabmgdfapioiaaBits8
namespace Go.Proofs.Ytfabmgdfapioiaa.Bits
open Go.RowKit Mem
set_option linter.unusedSimpArgs false
set_option linter.unusedVariables false
set_option maxRecDepth 100000

theorem run_frombits (a : Int) (w : World) : (callFunc 35 #[.int .u64 a]).run Try.prog w = .ok (.value (.float .f64 a.toNat)) w := by kernel_rfl
attribute [go_sem] run_frombits
theorem val_bd0 (s : ByteArray) (k i : Nat) (hi : i ≤ k) (h : k ≤ s.size) : Bt.val ((Bt.bytesOf s 0 k).take i) 0 < 256 ^ i := by
  have h1 := Bt.val_lt ((Bt.bytesOf s 0 k).take i) 0 (fun x hx => Bt.bytesOf_bytes s 0 k x (List.mem_of_mem_take hx))
  have h2 : ((Bt.bytesOf s 0 k).take i).length = i := by rw [List.length_take, Bt.bytesOf_length s 0 k (by omega)]; omega
  rw [h2] at h1
  simpa using h1.1

set_option maxHeartbeats 1000000 in
theorem Real_calls (g : Nat) (s : ByteArray) (e0 : Int) (w : World) (hs : s.size ≤ 9007199254740992) (hb : TapeAt w g s e0) :
    Calls Try.prog 23 #[.pointer (some ⟨g, 0, none⟩)] w fun e w' => e = .returned (.float .f64 (realR s e0).1) ∧ Mod w w' [g] ∧ TapeAt w' g (realR s e0).2.1 (realR s e0).2.2 := by
  have hc0 : w.cell? ⟨g, 0, none⟩ = some (.string s) := Blk.cell hb 0
  have hlt : g < w.heap.size := Blk.lt hb
  by_cases h0 : e0 = 0
  · subst h0
    by_cases h1 : s.size < 8
    · have e1 : realR s 0 = (0, s, 5) := by unfold realR; rw [if_neg (by simp), if_pos h1]
      rw [e1]
      clear e1
      go_enter Try.func23, Try.ntmps23
      go_wp2_with fail
      refine (stuck_calls g s 0 _ hb).mono ?_
      rintro e w' ⟨rfl, rfl⟩
      go_wp2_with fail
      refine (fail_calls g s 0 _ _ hb).mono ?_
      rintro e w2 ⟨rfl, hm2, hb2⟩
      go_wp2_with fail
      go_ret
      exact ⟨rfl, hm2, hb2⟩
    · have h1' : 8 ≤ s.size := by omega
      have hlen : (s.extract 0 8).size = 8 := by rw [ByteArray.size_extract]; omega
      obtain ⟨cap, W', hconv, hmod, hWs, hcells⟩ := conv_bytes w (s.extract 0 8)
      rw [hlen] at hconv hcells
      have hcells' : ∀ j, j < 8 → W'.cell? ⟨w.heap.size, j, none⟩ = some (.int .u8 (Bt.byt s j : Nat)) := fun j hj => by
        have := hcells j hj
        rw [show (8 : Nat) = 0 + 8 by omega, byt_sub s 0 8 j hj (by omega), Nat.zero_add] at this
        exact this
      have hb' : TapeAt W' g s 0 := Blk.mod hb hmod (by simp)
      have hvb := fun i hi => val_bd0 s 8 i hi h1'
      have hstep := fun i hi => Bt.bytesOf_step s 0 8 i hi (by omega)
      have hall : (Bt.bytesOf s 0 8).take 8 = Bt.bytesOf s 0 8 := by rw [List.take_of_length_le]; rw [Bt.bytesOf_length s 0 8 (by omega)]; exact Nat.le_refl _
      have hR : realR s 0 = if Fl.nanB (Bt.val (Bt.bytesOf s 0 8) 0) = true ∧ Bt.val (Bt.bytesOf s 0 8) 0 ≠ 9221120237041090561 then (0, s, 3) else (Bt.val (Bt.bytesOf s 0 8) 0, s.extract 8 s.size, 0) := by
        unfold realR; rw [if_neg (by simp), if_neg h1]
      have HCELL := Lib.hid hcells'
      have HVB := Lib.hid hvb
      have HSTEP := Lib.hid hstep
      have HALL := Lib.hid hall
      have HMOD := Lib.hid hmod
      have HB := Lib.hid hb'
      have HR := Lib.hid hR
      generalize realR s 0 = R at *
      have h8 : 8 ≤ (s.size : Int) := by omega
      clear hcells hcells' hvb hstep hall hmod hlen hR h1
      have hc0' : W'.cell? ⟨g, 0, none⟩ = some (.string s) := Blk.cell hb' 0
      have hf0' := Blk.free hb' 0
      clear hb'
      go_enter Try.func23, Try.ntmps23
      go_wp2_with fail
      refine (stuck_calls g s 0 _ hb).mono ?_
      rintro e w' ⟨rfl, rfl⟩
      go_wp2_with fail
      go_loop [3, 24] (fun vn vj => ∃ j v : Nat, j ≤ 8 ∧ vj = .int .i64 j ∧ vn = .int .u64 v ∧ Hid (v = Bt.val ((Bt.bytesOf s 0 8).take j) 0)) (fun _ vj => 8 - (intOf vj).toNat)
      case atStart => exact ⟨0, 0, by omega, rfl, rfl, Lib.hid rfl⟩
      case round =>
        obtain ⟨j, v, hj, rfl, rfl, HV⟩ := hrel
        by_cases hlt : j < 8
        · have hcj := HCELL.out j hlt
          have hvlt : v < 256 ^ 7 := by
            rw [HV.out]
            exact Nat.lt_of_lt_of_le (HVB.out j (by omega)) (Nat.pow_le_pow_right (by decide) (by omega))
          have hbb := Bt.byt_lt s j
          have hor := or_byte v (Bt.byt s j) hbb hvlt
          have hw : IntKind.u64.wrap ((v : Int) * 256) = (v : Int) * 256 := IntWalk.u64_in _ (by omega)
          have hlt' : (j : Int) < 8 := by omega
          have HVL := Lib.hid hvlt
          clear hvlt
          generalize hq : Bt.byt s j = b at *
          have HQ := Lib.hid hq
          clear hq
          go_wp2
          go_round
          case rel =>
            refine ⟨j + 1, 256 * v + b, by omega, by go_num, rfl, Lib.hid ?_⟩
            rw [HSTEP.out j hlt, Bt.val_append, ← HV.out, Nat.zero_add, HQ.out]
            simp [Bt.val]
          case measure => simp [intOf]; omega
        · obtain rfl : j = 8 := by omega
          have hv : v = Bt.val (Bt.bytesOf s 0 8) 0 := by rw [HV.out, HALL.out]
          have hr := HR.out
          rw [← hv] at hr
          have hvlt : v < 18446744073709551616 := by
            have := HVB.out 8 (Nat.le_refl _); rw [HV.out]; exact this
          clear hv
          have hto : (v : Int).toNat = v := Int.toNat_natCast v
          by_cases z : Fl.nanB v = true ∧ v ≠ 9221120237041090561
          · rw [if_pos z] at hr
            have z1 := z.1
            have z2 : ((v : Int) != 9221120237041090561) = true := by rw [bne_iff_ne]; have := z.2; omega
            have HRR := Lib.hid hr
            clear hr z
            go_wp2_with fail
            refine (fail_calls g s 0 _ _ HB.out).mono ?_
            rintro e w2 ⟨rfl, hm2, hb2⟩
            go_wp2_with fail
            go_ret
            rw [HRR.out]
            exact ⟨rfl, (HMOD.out.weak0).trans hm2 (by simp), hb2⟩
          · rw [if_neg z] at hr
            have HRR := Lib.hid hr
            clear hr
            cases z1 : Fl.nanB v
            · clear z
              go_wp2
              go_ret
              rw [HRR.out]
              exact ⟨rfl, (HMOD.out.weak0).setCell (by simp) _, Blk.set HB.out 0 _⟩
            · have z2 : ((v : Int) != 9221120237041090561) = false := by
                rw [← Bool.not_eq_true, bne_iff_ne]
                intro h; exact z ⟨z1, by omega⟩
              clear z
              go_wp2
              go_ret
              rw [HRR.out]
              exact ⟨rfl, (HMOD.out.weak0).setCell (by simp) _, Blk.set HB.out 0 _⟩
  · have hne : (e0 != 0) = true := by rw [bne_iff_ne]; exact h0
    have e1 : realR s e0 = (0, s, e0) := by unfold realR; rw [if_pos h0]
    rw [e1]
    clear e1 h0
    go_enter Try.func23, Try.ntmps23
    go_wp2_with fail
    refine (stuck_calls g s e0 _ hb).mono ?_
    rintro e w' ⟨rfl, rfl⟩
    rw [hne]
    go_wp2_with fail
    go_ret
    exact ⟨rfl, Mod.refl _ _, hb⟩

theorem Real_nil (w : World) : Calls Try.prog 23 #[.pointer none] w fun e w' => e = .returned (.float .f64 0) ∧ w = w' := by
  go_enter Try.func23, Try.ntmps23
  go_wp2_with (go_at_call 31; refine (stuck_nil _).mono ?_; rintro e w' ⟨rfl, rfl⟩)
  go_ret
  exact ⟨rfl, rfl⟩
end Go.Proofs.Ytfabmgdfapioiaa.Bits
