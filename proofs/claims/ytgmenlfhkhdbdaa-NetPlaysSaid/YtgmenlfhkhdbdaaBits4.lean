/- The contract of a tape's number. -/
import Derived.Test.YtgmenlfhkhdbdaaBits3
import Derived.Test.YtgmenlfhkhdbdaaBd
import Derived.Lib.ConvBytes
import Derived.Lib.Strings
namespace Go.Proofs.Ytgmenlfhkhdbdaa.Bits
open Go.RowKit Mem
set_option linter.unusedSimpArgs false
set_option linter.unusedVariables false
set_option maxRecDepth 100000

theorem to_list_empty (s : ByteArray) (h : s.size = 0) : s = ⟨#[]⟩ := by
  apply ByteArray.ext
  apply Array.ext'
  have : s.data.toList.length = 0 := by simpa using h
  simpa using List.eq_nil_of_length_eq_zero this
theorem isEmpty_size (s : ByteArray) (h : 0 < s.size) : s.toList.isEmpty = false := by
  rw [← Bool.not_eq_true, List.isEmpty_iff]
  intro e
  have h1 : s.toList.length = s.size := by rw [_root_.Go.ByteArray.toList_eq]; simp
  rw [e] at h1; simp at h1; omega
theorem isEmpty_zero (s : ByteArray) (h : s.size = 0) : s.toList.isEmpty = true := by
  rw [_root_.Go.ByteArray.toList_eq, to_list_empty s h]; rfl

/-- '[]byte(t)': new memory with the text's bytes. -/
theorem conv_bytes (w : World) (t : ByteArray) : ∃ cap W', (convert 9 178 (.string t)).run Try.prog w = .ok (.slice (some ⟨w.heap.size, 0, none⟩) t.size cap) W' ∧ Mod w W' [] ∧ w.heap.size < W'.heap.size ∧
    ∀ j, j < t.size → W'.cell? ⟨w.heap.size, j, none⟩ = some (.int .u8 (Bt.byt t j : Nat)) := by
  refine ⟨_, _, Lib.run_convert_string_bytes (P := Try.prog) w 9 178 5 t (u := .string) (by kernel_rfl) (by kernel_rfl) (by kernel_rfl), ⟨rfl, rfl, rfl, ?_, ?_⟩, ?_, ?_⟩
  · rw [Lib.bytesWorld_size]; omega
  · intro k hk _; exact Lib.bytesWorld_at_old w _ t k hk
  · rw [Lib.bytesWorld_size]; omega
  · intro j hj; exact Lib.bytesWorld_cell w _ t j hj

theorem or_byte (v b : Nat) (hb : b < 256) (hv : v < 72057594037927936) : bits .or .u64 ((v : Int) * 256) (b : Int) = ((256 * v + b : Nat) : Int) := by
  rw [show (v : Int) * 256 = ((256 * v : Nat) : Int) by omega, bits_or_u64_nat (256 * v) b (by omega) (by omega), nat_join 8 (256 * v) b (by omega) hb]

theorem byt_sub (s : ByteArray) (a k i : Nat) (hi : i < k) (h : a + k ≤ s.size) : Bt.byt (s.extract a (a + k)) i = Bt.byt s (a + i) := by
  have hl : s.data.toList.length = s.size := by simp
  unfold Bt.byt
  rw [Lib.extract_data, List.getD_eq_getElem?_getD, List.getD_eq_getElem?_getD, List.getElem?_take, if_pos (by omega), List.getElem?_drop]

set_option maxHeartbeats 1000000 in
theorem tnum_calls (g : Nat) (s : ByteArray) (e0 : Int) (w : World) (hs : s.size ≤ 9007199254740992) (hb : Blk w g #[.string s, .int .i64 e0] 188) :
    Calls Try.prog 125 #[.pointer (some ⟨g, 0, none⟩)] w fun e w' => e = .returned (.tuple #[.int .u64 (Bt.numD s).1, .int .i64 (Bt.numD s).2.1, .int .i64 (Bt.numD s).2.2]) ∧ Mod w w' [] := by
  have hc0 : w.cell? ⟨g, 0, none⟩ = some (.string s) := hb.cell 0
  have hlt : g < w.heap.size := hb.lt
  by_cases h0 : s.size = 0
  · have he := isEmpty_zero s h0
    have hD : Bt.numD s = (0, 0, 5) := by unfold Bt.numD; rw [if_pos h0]
    rw [hD]; clear hD h0
    go_enter Try.func125, Try.ntmps125
    go_wp2
    go_ret3
    exact ⟨ret3 rfl rfl rfl, Mod.refl _ _⟩
  have hpos : 0 < s.size := by omega
  have he := isEmpty_size s hpos
  have hby := Bt.byt_lt s 0
  have hg0 : s[0].toNat = Bt.byt s 0 := Bt.byt_get s 0 hpos
  by_cases h1 : Bt.byt s 0 ≤ 247
  · have hD : Bt.numD s = (Bt.byt s 0, 1, 0) := by unfold Bt.numD; rw [if_neg h0, if_pos h1]
    rw [hD]; clear hD h0
    generalize Bt.byt s 0 = c at *
    have h1' : (c : Int) ≤ 247 := by omega
    go_enter Try.func125, Try.ntmps125
    go_wp2
    go_ret3
    exact ⟨ret3 rfl rfl rfl, Mod.refl _ _⟩
  obtain ⟨k, hk⟩ : ∃ k, Bt.byt s 0 = 247 + k := ⟨Bt.byt s 0 - 247, by omega⟩
  have hk1 : 1 ≤ k := by omega
  have hk8 : k ≤ 8 := by omega
  have hgk : (s[0].toNat : Int) = 247 + (k : Int) := by rw [hg0, hk]; omega
  have hw1 : wrap64 (247 + (k : Int)) = 247 + (k : Int) := IntWalk.wrap64_in _ (by omega)
  by_cases h2 : s.size ≤ k
  · have hD : Bt.numD s = (0, 0, 5) := by unfold Bt.numD; rw [if_neg h0, if_neg h1, if_pos (by omega)]
    rw [hD]; clear hD h0 h1 hg0 hby hk
    go_enter Try.func125, Try.ntmps125
    go_wp2
    go_ret3
    exact ⟨ret3 rfl rfl rfl, Mod.refl _ _⟩
  have hsz1 : 1 < s.size := by omega
  have hlen : (s.extract 1 (k + 1)).size = k := by rw [ByteArray.size_extract]; omega
  obtain ⟨cap, W', hconv, hmod, hWs, hcells⟩ := conv_bytes w (s.extract 1 (k + 1))
  rw [hlen] at hconv hcells
  have hcells' : ∀ j, j < k → W'.cell? ⟨w.heap.size, j, none⟩ = some (.int .u8 (Bt.byt s (1 + j) : Nat)) := fun j hj => by
    have := hcells j hj
    rw [show k + 1 = 1 + k by omega, byt_sub s 1 k j hj (by omega)] at this
    exact this
  have hc0' : W'.cell? ⟨g, 0, none⟩ = some (.string s) := by rw [hmod.cell hlt (by simp)]; exact hc0
  have hvb := fun i hi => Bt.val_bd s k i hk8 hi (by omega)
  have hstep := fun i hi => Bt.bytesOf_step s 1 k i hi (by omega)
  have hg1 : (s[1]'hsz1).toNat = Bt.byt s 1 := Bt.byt_get s 1 (by omega)
  have hb1 := Bt.byt_lt s 1
  have hall : (Bt.bytesOf s 1 k).take k = Bt.bytesOf s 1 k := by rw [List.take_of_length_le]; rw [Bt.bytesOf_length s 1 k (by omega)]; exact Nat.le_refl _
  have HCELL := Lib.hid hcells'
  have HVB := Lib.hid hvb
  have HSTEP := Lib.hid hstep
  have HALL := Lib.hid hall
  have HMOD := Lib.hid hmod
  have hn0 : ¬ s.size = 0 := h0
  have HD : Hid (Bt.numD s = if Bt.byt s 1 = 0 ∨ Bt.val (Bt.bytesOf s 1 k) 0 ≤ 247 then (0, 0, 3) else (Bt.val (Bt.bytesOf s 1 k) 0, k + 1, 0)) := Lib.hid (by
    unfold Bt.numD
    rw [if_neg h0, if_neg h1, if_neg (by omega), show Bt.byt s 0 - 247 = k by omega])
  have hk1' : 1 ≤ (k : Int) := by omega
  have hk8' : (k : Int) ≤ 8 := by omega
  have h2' : (k : Int) < s.size := by omega
  clear hcells hcells' hvb hstep hall hmod hlen hby h0 h1 h2 hn0 hg0 hk hc0
  have hc0 : w.cell? ⟨g, 0, none⟩ = some (.string s) := hb.cell 0
  go_enter Try.func125, Try.ntmps125
  go_wp2_with fail
  go_loop [7, 43] (fun vn vj => ∃ j v : Nat, j ≤ k ∧ vj = .int .i64 j ∧ vn = .int .u64 v ∧ Hid (v = Bt.val ((Bt.bytesOf s 1 k).take j) 0)) (fun _ vj => k - (intOf vj).toNat)
  case atStart => exact ⟨0, 0, by omega, rfl, rfl, Lib.hid rfl⟩
  case round =>
    obtain ⟨j, v, hj, rfl, rfl, HV⟩ := hrel
    by_cases hlt : j < k
    · have hcj := HCELL.out j hlt
      have hvlt : v < 256 ^ 7 := by
        rw [HV.out]
        exact Nat.lt_of_lt_of_le (HVB.out j (by omega)) (Nat.pow_le_pow_right (by decide) (by omega))
      have hb := Bt.byt_lt s (1 + j)
      have hor := or_byte v (Bt.byt s (1 + j)) hb hvlt
      have hw : IntKind.u64.wrap ((v : Int) * 256) = (v : Int) * 256 := IntWalk.u64_in _ (by omega)
      have hlt' : (j : Int) < k := by omega
      have HB := Lib.hid hvlt
      clear hvlt
      generalize hbb : Bt.byt s (1 + j) = b at *
      have HBB := Lib.hid hbb
      clear hbb
      go_wp2
      go_round
      case rel =>
        refine ⟨j + 1, 256 * v + b, by omega, by go_num, rfl, Lib.hid ?_⟩
        rw [HSTEP.out j hlt, Bt.val_append, ← HV.out, HBB.out]
        simp [Bt.val]
      case measure => simp [intOf]; omega
    · obtain rfl : j = k := by omega
      have HV2 : Hid (v = Bt.val (Bt.bytesOf s 1 j) 0) := Lib.hid (by rw [HV.out, HALL.out])
      have hd := HD.out
      rw [← HV2.out] at hd
      by_cases z : Bt.byt s 1 = 0
      · have z' : (((s[1]'hsz1).toNat : Int) == 0) = true := by rw [hg1, beq_iff_eq]; omega
        rw [if_pos (.inl z)] at hd
        have HDD := Lib.hid hd
        have HG := Lib.hid hg1
        clear hd z hg1
        go_wp2
        go_ret3
        exact ⟨by rw [HDD.out]; exact ret3 rfl rfl rfl, HMOD.out⟩
      · have z' : (((s[1]'hsz1).toNat : Int) == 0) = false := by rw [hg1, beq_eq_false_iff_ne]; omega
        have HG := Lib.hid hg1
        clear hg1
        by_cases y : v ≤ 247
        · rw [if_pos (.inr y)] at hd
          have HDD := Lib.hid hd
          clear hd z
          go_wp2
          go_ret3
          exact ⟨by rw [HDD.out]; exact ret3 rfl rfl rfl, HMOD.out⟩
        · rw [if_neg (by omega)] at hd
          have HDD := Lib.hid hd
          clear hd z
          go_wp2
          go_ret3
          exact ⟨by rw [HDD.out]; exact ret3 rfl (vint (by show _ = ((j + 1 : Nat) : Int); omega)) rfl, HMOD.out⟩
end Go.Proofs.Ytgmenlfhkhdbdaa.Bits
