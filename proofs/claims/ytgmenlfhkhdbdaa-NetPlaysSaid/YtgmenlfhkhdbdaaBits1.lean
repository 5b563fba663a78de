/- The contracts of package bits that write, and of its reference. -/
import Derived.Test.YtgmenlfhkhdbdaaBt
import Derived.Test.YtgmenlfhkhdbdaaMem
import Derived.Test.YtgmenlfhkhdbdaaProg
import Derived.WalkKit
import Derived.WalkSpells
import Derived.WalkLawsBesides
import Derived.KernelRfl
import Derived.Lib.Hide
import Derived.Deep.RegionWith
import Derived.ProofKit
namespace Go.Proofs.Ytgmenlfhkhdbdaa.Bits
open Go.RowKit Mem
set_option linter.unusedSimpArgs false
set_option linter.unusedVariables false
set_option maxRecDepth 100000

theorem ret_int {k : IntKind} {a b : Int} (h : a = b) : Ending.returned (.int k a) = .returned (.int k b) := by rw [h]
theorem ret_bool {a b : Bool} (h : a = b) : Ending.returned (.bool a) = .returned (.bool b) := by rw [h]
theorem ret_str {a b : ByteArray} (h : a = b) : Ending.returned (.string a) = .returned (.string b) := by rw [h]
theorem ret2 {a b c d : Value} (h1 : a = c) (h2 : b = d) : Ending.returned (.tuple #[a, b]) = .returned (.tuple #[c, d]) := by rw [h1, h2]
theorem ret3 {a b c d e f : Value} (h1 : a = d) (h2 : b = e) (h3 : c = f) : Ending.returned (.tuple #[a, b, c]) = .returned (.tuple #[d, e, f]) := by rw [h1, h2, h3]
theorem vint {k : IntKind} {a b : Int} (h : a = b) : Value.int k a = .int k b := by rw [h]
theorem vbool {a b : Bool} (h : a = b) : Value.bool a = .bool b := by rw [h]
theorem vstr {a b : ByteArray} (h : a = b) : Value.string a = .string b := by rw [h]

theorem numL_small (n : Nat) (hn : n ≤ 247) : Bt.numS n = strOfNums [(n : Int)] := by unfold Bt.numS Bt.numL; rw [if_pos hn]

theorem num_small (n : Nat) (hn : n ≤ 247) (w : World) :
    Calls Try.prog 62 #[.int .u64 n] w fun e w' => e = .returned (.string (Bt.numS n)) ∧ Mod w w' [] := by
  rw [numL_small n hn]
  have hconv : (convert 178 9 (.slice (some ⟨w.heap.size, 0, none⟩) 1 1)).run Try.prog (w.alloc (.cells #[.int .u8 (n : Int)] 5)) = .ok (.string (strOfNums [(n : Int)])) (w.alloc (.cells #[.int .u8 (n : Int)] 5)) :=
    run_convert_bytes_arg _ 178 5 (by kernel_rfl) (by kernel_rfl) _ 0 1 1 [(n : Int)] rfl (fun i hi => by
      have : i = 0 := by omega
      subst this; rw [(Blk.new w _ _).cell]; rfl) _ (by kernel_rfl)
  generalize strOfNums [(n : Int)] = S at *
  go_enter Try.func62, Try.ntmps62
  go_wp2
  go_ret
  exact ⟨rfl, (Mod.refl _ _).alloc _⟩

/-- The nine cells when k bytes of n are laid. -/
def arr (n k : Nat) : Array Value := ((List.replicate (9 - k) (0 : Int) ++ Bt.be k n).map (Value.int .u8)).toArray

theorem arr_zero (n : Nat) : arr n 0 = #[.int .u8 0, .int .u8 0, .int .u8 0, .int .u8 0, .int .u8 0, .int .u8 0, .int .u8 0, .int .u8 0, .int .u8 0] := rfl

theorem set_front (m : Nat) (l : List Int) (x : Int) : (List.replicate (m + 1) (0 : Int) ++ l).set m x = List.replicate m 0 ++ x :: l := by
  rw [List.set_append_left _ _ (by simp)]
  rw [List.replicate_succ', List.set_append_right _ _ (by simp)]
  simp

theorem arr_set (n k : Nat) (hk : k < 9) (x : Int) : (arr n k).setIfInBounds (8 - k) (.int .u8 x) = ((List.replicate (8 - k) (0 : Int) ++ x :: Bt.be k n).map (Value.int .u8)).toArray := by
  unfold arr
  rw [show 9 - k = (8 - k) + 1 by omega]
  apply Array.ext'
  simp only [Array.toList_setIfInBounds]
  rw [← List.map_set, set_front]

theorem arr_step (n k : Nat) (hk : k < 9) : (arr n k).setIfInBounds (8 - k) (.int .u8 ((n / 256 ^ k % 256 : Nat) : Int)) = arr n (k + 1) := by
  rw [arr_set n k hk]
  unfold arr
  rw [show 9 - (k + 1) = 8 - k by omega]
  rfl

theorem div_cast (n k : Nat) : ((n : Int) / 256 ^ k) = ((n / 256 ^ k : Nat) : Int) := by rw [Int.natCast_ediv, Int.natCast_pow]; rfl
theorem arr_get (n k : Nat) (hk : k < 9) : (arr n k)[8 - k]? = some (.int .u8 0) := by
  unfold arr
  rw [show 9 - k = (8 - k) + 1 by omega, List.getElem?_toArray, List.getElem?_map, List.getElem?_append_left (by simp), List.getElem?_replicate, if_pos (by omega)]
  rfl

theorem alen9 : Try.prog.arrayLen 179 = 9 := by kernel_rfl
theorem ael9 : Try.prog.elem 179 = 5 := by kernel_rfl
theorem size_u8 (w : World) : (sizeOf 5).run Try.prog w = .ok 1 w := by kernel_rfl
theorem slice9 (g : Nat) (l : Int) (j : Nat) (hl : l = j) (h : j < 9) (w : World) :
    (Instr.sliceAt 179 (.pointer (some ⟨g, 0, none⟩)) (some (.int .i64 l)) none none).run Try.prog w = .ok (.slice (some ⟨g, j, none⟩) (9 - j) (9 - j)) w := by
  rw [run_sliceAt_array_l w 179 ⟨g, 0, none⟩ (by kernel_rfl) .i64 l (by omega) (by rw [alen9]; omega), alen9, ael9, size_u8]
  subst hl
  simp only [Result.andThen, slicedAt, Int.toNat_natCast, Nat.mul_one]
  rw [if_neg (by omega), Go.WideShapes.add_plain, Nat.zero_add]

theorem num_large (n : Nat) (h0 : 247 < n) (hn : n < 18446744073709551616) (w : World) :
    Calls Try.prog 62 #[.int .u64 n] w fun e w' => e = .returned (.string (Bt.numS n)) ∧ Mod w w' [] := by
  have hb := Bt.bl_le n
  have hbi := fun k hk => Bt.bl_iff n k hn hk
  have HBI := Lib.hid hbi
  clear hbi
  have hn0 : 247 < (n : Int) := by omega
  go_enter Try.func62, Try.ntmps62
  go_wp2_with fail
  go_loopw [4, 5] (fun vk vm wr => ∃ k : Nat, k ≤ 8 ∧ vk = .int .i64 k ∧ vm = .int .u64 ((n / 256 ^ k : Nat) : Int) ∧ k ≤ Bt.bl n ∧ Mod w wr [] ∧ Blk wr w.heap.size (arr n k) 179) (fun vk _ _ => 9 - (intOf vk).toNat)
  case atStart => exact ⟨0, by omega, rfl, by simp, by omega, (Mod.refl _ _).alloc _, by rw [arr_zero]; exact Blk.new _ _ _⟩
  case round =>
    obtain ⟨k, hk, rfl, rfl, hkb, hmod, hblk⟩ := hrel
    have hbk := HBI.out k hk
    by_cases hlt : k < Bt.bl n
    · have hpos := hbk.2 hlt
      clear hbk
      have hk8 : k < 8 := by omega
      have hc : wr.cell? ⟨w.heap.size, 8 - k, none⟩ = some (.int .u8 0) := by
        rw [hblk.cell, arr_get n k (by omega)]
      have hf := hblk.free (8 - k)
      have HST := Lib.hid (arr_step n k (by omega))
      have HM := Lib.hid hmod
      have HB := Lib.hid hblk
      clear hmod hblk
      have HP : Hid (n / 256 ^ (k + 1) = n / 256 ^ k / 256) := Lib.hid (by rw [Nat.pow_succ, Nat.div_div_eq_div_mul])
      generalize hq : n / 256 ^ k = q at *
      have hq' : ((n : Int) / 256 ^ k) = (q : Int) := by rw [← hq]; exact div_cast n k
      have HQ := Lib.hid hq
      clear hq
      go_wp2
      go_roundw
      case rel =>
        refine ⟨k + 1, by omega, by go_num, vint ?_, by omega, HM.out.setCell (by simp) _, ?_⟩
        · rw [HP.out]; first | rfl | (push_cast; rfl) | omega
        · have := HB.out.set (8 - k) (.int .u8 ((q % 256 : Nat) : Int))
          rw [HST.out] at this
          exact this
      case measure => simp [intOf]; omega
    · have hk1 : 1 ≤ Bt.bl n := by
        rcases Bt.bl_cases n hn with h | h | h | h | h | h | h | h | h <;> omega
      have hkn : Hid (k = Bt.bl n) := Lib.hid (by omega)
      have hk0 : 1 ≤ (k : Int) := by have := hkn.out; omega
      have hneg : ¬ 0 < n / 256 ^ k := by omega
      clear hbk hk1 hlt hkb
      have hc : wr.cell? ⟨w.heap.size, 8 - k, none⟩ = some (.int .u8 0) := by
        rw [hblk.cell, arr_get n k (by omega)]
      have hf := hblk.free (8 - k)
      have HM := Lib.hid hmod
      have HB := Lib.hid hblk
      clear hmod hblk
      generalize hq : n / 256 ^ k = q at *
      have hq0 : q = 0 := by omega
      subst hq0
      have hsl : ∀ w', (Instr.sliceAt 179 (.pointer (some ⟨w.heap.size, 0, none⟩)) (some (.int .i64 (8 - (k : Int)))) none none).run Try.prog w' = .ok (.slice (some ⟨w.heap.size, 8 - k, none⟩) (k + 1) (k + 1)) w' := fun w' => by
        have := slice9 w.heap.size (8 - (k : Int)) (8 - k) (by omega) (by omega) w'
        rw [show 9 - (8 - k) = k + 1 by omega] at this
        exact this
      have hconv : (convert 178 9 (.slice (some ⟨w.heap.size, 8 - k, none⟩) (k + 1) (k + 1))).run Try.prog (wr.setCell ⟨w.heap.size, 8 - k, none⟩ (.int .u8 (247 + (k : Int)))) = .ok (.string (strOfNums ((247 + (k : Int)) :: Bt.be k n))) (wr.setCell ⟨w.heap.size, 8 - k, none⟩ (.int .u8 (247 + (k : Int)))) :=
        run_convert_bytes_arg _ 178 5 (by kernel_rfl) (by kernel_rfl) _ (8 - k) (k + 1) (k + 1) ((247 + (k : Int)) :: Bt.be k n) (by simp [Bt.be_length]) (fun i hi => by
          rw [(HB.out.set (8 - k) _).cell, arr_set n k (by omega), List.getElem?_toArray, List.getElem?_map, List.getElem?_append_right (by simp)]
          simp only [List.length_replicate, Nat.add_sub_cancel_left]
          rw [List.getD_eq_getElem?_getD]
          have hi' : i < ((247 + (k : Int)) :: Bt.be k n).length := by simp [Bt.be_length]; omega
          rw [List.getElem?_eq_getElem hi']; rfl) _ (by kernel_rfl)
      have hS : Hid (Bt.numS n = strOfNums ((247 + (k : Int)) :: Bt.be k n)) := Lib.hid (by
        unfold Bt.numS Bt.numL; rw [if_neg (by omega), ← hkn.out, show ((247 + k : Nat) : Int) = 247 + (k : Int) by omega])
      generalize strOfNums ((247 + (k : Int)) :: Bt.be k n) = S at *
      go_wp2
      go_ret
      exact ⟨ret_str hS.out.symm, HM.out.setCell (by simp) _⟩
theorem num_calls (n : Nat) (hn : n < 18446744073709551616) (w : World) :
    Calls Try.prog 62 #[.int .u64 n] w fun e w' => e = .returned (.string (Bt.numS n)) ∧ Mod w w' [] := by
  by_cases h : n ≤ 247
  · exact num_small n h w
  · exact num_large n (by omega) hn w
end Go.Proofs.Ytgmenlfhkhdbdaa.Bits
