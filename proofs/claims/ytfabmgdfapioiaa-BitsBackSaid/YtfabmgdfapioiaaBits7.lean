/- The contracts of real numbers as bytes. -/
import Derived.Test.YtfabmgdfapioiaaBits6
import Derived.Test.YtfabmgdfapioiaaFl
namespace Go.Proofs.Ytfabmgdfapioiaa.Bits
open Go.RowKit Mem
set_option linter.unusedSimpArgs false
set_option linter.unusedVariables false
set_option maxRecDepth 100000

theorem run_bits (a : Nat) (w : World) : (callFunc 36 #[.float .f64 a]).run Try.prog w = .ok (.value (.int .u64 a)) w := by kernel_rfl
theorem self_ne (a : Nat) : (FloatKind.f64.format.order a a != some .eq) = Fl.nanB a := Fl.self_ne a
attribute [go_sem] run_bits self_ne
def canB (f : Nat) : Nat := if Fl.nanB f then 9221120237041090561 else f
def realS (f : Nat) : ByteArray := strOfNums (Bt.be 8 (canB f))

theorem canB_lt (f : Nat) (h : f < 18446744073709551616) : canB f < 18446744073709551616 := by unfold canB; split <;> omega

/-- The eight cells when k bytes are laid. -/
def arr8 (x k : Nat) : Array Value := (((Bt.be 8 x).take k ++ List.replicate (8 - k) (0 : Int)).map (Value.int .u8)).toArray
theorem arr8_zero (x : Nat) : arr8 x 0 = #[.int .u8 0, .int .u8 0, .int .u8 0, .int .u8 0, .int .u8 0, .int .u8 0, .int .u8 0, .int .u8 0] := rfl
theorem arr8_all (x : Nat) : arr8 x 8 = ((Bt.be 8 x).map (Value.int .u8)).toArray := rfl
theorem arr8_get (x k : Nat) (hk : k < 8) : (arr8 x k)[k]? = some (.int .u8 0) := by
  unfold arr8
  have hl : ((Bt.be 8 x).take k).length = k := by rw [List.length_take, Bt.be_length]; omega
  rw [List.getElem?_toArray, List.getElem?_map, List.getElem?_append_right (by omega), hl, Nat.sub_self, List.getElem?_replicate, if_pos (by omega)]
  rfl
theorem arr8_step (x k : Nat) (hk : k < 8) : (arr8 x k).setIfInBounds k (.int .u8 ((x / 256 ^ (7 - k) % 256 : Nat) : Int)) = arr8 x (k + 1) := by
  have hl : ((Bt.be 8 x).take k).length = k := by rw [List.length_take, Bt.be_length]; omega
  unfold arr8
  apply Array.ext'
  simp only [Array.toList_setIfInBounds]
  rw [← List.map_set, List.set_append_right _ _ (by omega), hl, Nat.sub_self, be_take_step 8 x k hk, show 8 - k = (8 - (k + 1)) + 1 by omega, List.replicate_succ]
  simp

theorem shr_cast (x k : Nat) (hk : k ≤ 7) : (x : Int) / 2 ^ (56 - 8 * k) = ((x / 256 ^ (7 - k) : Nat) : Int) := by
  rw [← pow_cast, show 56 - 8 * k = 8 * (7 - k) by omega]

theorem slice8 (g : Nat) (w : World) : (Instr.sliceAt 71 (.pointer (some ⟨g, 0, none⟩)) none none none).run Try.prog w = .ok (.slice (some ⟨g, 0, none⟩) 8 8) w := by
  have h := run_sliceAt_array_all (P := Try.prog) w 71 ⟨g, 0, none⟩ (by kernel_rfl)
  rw [h, show Try.prog.arrayLen 71 = 8 by kernel_rfl, show Try.prog.elem 71 = 5 by kernel_rfl, size_u8]
  rfl

theorem real_calls (f : Nat) (hf : f < 18446744073709551616) (w : World) :
    Calls Try.prog 27 #[.float .f64 f] w fun e w' => e = .returned (.string (realS f)) ∧ Mod w w' [] := by
  unfold realS
  have hx := canB_lt f hf
  have hcan : canB f = if Fl.nanB f then 9221120237041090561 else f := rfl
  have hs8 := slice8 w.heap.size
  cases hn : Fl.nanB f
  · rw [hn] at hcan
    simp only [if_false, Bool.false_eq_true] at hcan
    rw [hcan]
    rw [hcan] at hx
    clear hcan
    obtain ⟨T, hT⟩ : ∃ T, T = strOfNums (Bt.be 8 f) := ⟨_, rfl⟩
    rw [← hT]
    have HT := Lib.hid hT
    clear hT
    go_enter Try.func27, Try.ntmps27
    go_wp2_with fail
    generalize f = x at *
    have hS : Hid (∀ W, (∀ i, i < 8 → W.cell? ⟨w.heap.size, i, none⟩ = some (.int .u8 ((Bt.be 8 x).getD i 0))) → (convert 22 9 (.slice (some ⟨w.heap.size, 0, none⟩) 8 8)).run Try.prog W = .ok (.string (strOfNums (Bt.be 8 x))) W) := Lib.hid (fun W hc =>
      run_convert_bytes_arg W 22 5 (by kernel_rfl) (by kernel_rfl) _ 0 8 8 (Bt.be 8 x) (Bt.be_length 8 x) (fun i hi => by rw [Nat.zero_add]; exact hc i hi) _ (by kernel_rfl))
    go_loopw [5, 11] (fun _ vk wr => ∃ k : Nat, k ≤ 8 ∧ vk = .int .i64 k ∧ Mod w wr [] ∧ Blk wr w.heap.size (arr8 x k) 71) (fun _ vk _ => 9 - (intOf vk).toNat)
    case atStart => exact ⟨0, by omega, rfl, (Mod.refl _ _).alloc _, by rw [arr8_zero]; exact Blk.new _ _ _⟩
    case round =>
      obtain ⟨k, hk, rfl, hmod, hblk⟩ := hrel
      have HM := Lib.hid hmod
      have HB := Lib.hid hblk
      by_cases hlt : k < 8
      · have hc : wr.cell? ⟨w.heap.size, k, none⟩ = some (.int .u8 0) := by rw [hblk.cell, arr8_get x k hlt]
        have hf := hblk.free k
        have HST := Lib.hid (arr8_step x k hlt)
        have hsh := shr_cast x k (by omega)
        have hlt' : (k : Int) < 8 := by omega
        generalize x / 256 ^ (7 - k) = q at *
        clear hmod hblk
        go_wp2
        go_roundw
        case rel =>
          refine ⟨k + 1, by omega, by go_num, HM.out.setCell (by simp) _, ?_⟩
          have := HB.out.set k (.int .u8 ((q % 256 : Nat) : Int))
          rw [HST.out] at this
          exact this
        case measure => simp [intOf]; omega
      · obtain rfl : k = 8 := by omega
        have hconv := hS.out wr (fun i hi => by
          rw [hblk.cell, arr8_all, List.getElem?_toArray, List.getElem?_map, List.getElem?_eq_getElem (by rw [Bt.be_length]; exact hi), List.getD_eq_getElem?_getD, List.getElem?_eq_getElem (by rw [Bt.be_length]; exact hi)]; rfl)
        generalize strOfNums (Bt.be 8 x) = S at *
        clear hmod hblk
        go_wp2
        go_ret
        exact ⟨ret_str HT.out.symm, HM.out⟩
  · rw [hn] at hcan
    simp only [if_true] at hcan
    rw [hcan]
    clear hcan
    obtain ⟨x, hxe⟩ : ∃ x : Nat, x = 9221120237041090561 := ⟨_, rfl⟩
    obtain ⟨T, hT⟩ : ∃ T, T = strOfNums (Bt.be 8 x) := ⟨_, rfl⟩
    rw [← hxe, ← hT]
    have HT := Lib.hid hT
    have HXE := Lib.hid hxe
    clear hT hxe
    go_enter Try.func27, Try.ntmps27
    go_wp2_with fail
    rw [show (9221120237041090561 : Int) = ((9221120237041090561 : Nat) : Int) from rfl, ← HXE.out]
    have hx : x < 18446744073709551616 := by rw [HXE.out]; decide
    have hS : Hid (∀ W, (∀ i, i < 8 → W.cell? ⟨w.heap.size, i, none⟩ = some (.int .u8 ((Bt.be 8 x).getD i 0))) → (convert 22 9 (.slice (some ⟨w.heap.size, 0, none⟩) 8 8)).run Try.prog W = .ok (.string (strOfNums (Bt.be 8 x))) W) := Lib.hid (fun W hc =>
      run_convert_bytes_arg W 22 5 (by kernel_rfl) (by kernel_rfl) _ 0 8 8 (Bt.be 8 x) (Bt.be_length 8 x) (fun i hi => by rw [Nat.zero_add]; exact hc i hi) _ (by kernel_rfl))
    go_loopw [5, 11] (fun _ vk wr => ∃ k : Nat, k ≤ 8 ∧ vk = .int .i64 k ∧ Mod w wr [] ∧ Blk wr w.heap.size (arr8 x k) 71) (fun _ vk _ => 9 - (intOf vk).toNat)
    case atStart => exact ⟨0, by omega, rfl, (Mod.refl _ _).alloc _, by rw [arr8_zero]; exact Blk.new _ _ _⟩
    case round =>
      obtain ⟨k, hk, rfl, hmod, hblk⟩ := hrel
      have HM := Lib.hid hmod
      have HB := Lib.hid hblk
      by_cases hlt : k < 8
      · have hc : wr.cell? ⟨w.heap.size, k, none⟩ = some (.int .u8 0) := by rw [hblk.cell, arr8_get x k hlt]
        have hf := hblk.free k
        have HST := Lib.hid (arr8_step x k hlt)
        have hsh := shr_cast x k (by omega)
        have hlt' : (k : Int) < 8 := by omega
        generalize x / 256 ^ (7 - k) = q at *
        clear hmod hblk
        go_wp2
        go_roundw
        case rel =>
          refine ⟨k + 1, by omega, by go_num, HM.out.setCell (by simp) _, ?_⟩
          have := HB.out.set k (.int .u8 ((q % 256 : Nat) : Int))
          rw [HST.out] at this
          exact this
        case measure => simp [intOf]; omega
      · obtain rfl : k = 8 := by omega
        have hconv := hS.out wr (fun i hi => by
          rw [hblk.cell, arr8_all, List.getElem?_toArray, List.getElem?_map, List.getElem?_eq_getElem (by rw [Bt.be_length]; exact hi), List.getD_eq_getElem?_getD, List.getElem?_eq_getElem (by rw [Bt.be_length]; exact hi)]; rfl)
        generalize strOfNums (Bt.be 8 x) = S at *
        clear hmod hblk
        go_wp2
        go_ret
        exact ⟨ret_str HT.out.symm, HM.out⟩
end Go.Proofs.Ytfabmgdfapioiaa.Bits
