/- The contract of the reference's number. -/
import Derived.Test.YtgmenlfhkhdbdaaBits1
namespace Go.Proofs.Ytgmenlfhkhdbdaa.Bits
open Go.RowKit Mem
set_option linter.unusedSimpArgs false
set_option linter.unusedVariables false
set_option maxRecDepth 100000

theorem be_get (K n i : Nat) (h : i < K) : (Bt.be K n)[i]? = some ((n / 256 ^ (K - 1 - i) % 256 : Nat) : Int) := by
  induction K generalizing i with
  | zero => omega
  | succ K ih =>
    cases i with
    | zero => rfl
    | succ i =>
      simp only [Bt.be, List.getElem?_cons_succ]
      rw [ih i (by omega)]
      congr 5; omega

theorem be_take_step (K n i : Nat) (h : i < K) : (Bt.be K n).take (i + 1) = (Bt.be K n).take i ++ [((n / 256 ^ (K - 1 - i) % 256 : Nat) : Int)] := by
  rw [List.take_add_one, be_get K n i h]; rfl

theorem pow_cast (n k : Nat) : (n : Int) / 2 ^ (8 * k) = ((n / 256 ^ k : Nat) : Int) := by
  rw [Int.natCast_ediv, Int.natCast_pow, Int.pow_mul]; rfl

theorem info_u8 : (Try.prog.info? 5).map (fun i => (i.zero, i.size, i.bytes)) = some (some (.int .u8 0), 1, 1) := by kernel_rfl

theorem refnum_small (n : Nat) (hn : n ≤ 247) (w : World) :
    Calls Try.prog 116 #[.int .u64 n] w fun e w' => e = .returned (.string (Bt.numS n)) ∧ Mod w w' [] := by
  rw [numL_small n hn]
  have hconv : (convert 178 9 (.slice (some ⟨w.heap.size, 0, none⟩) 1 1)).run Try.prog (w.alloc (.cells #[.int .u8 (n : Int)] 5)) = .ok (.string (strOfNums [(n : Int)])) (w.alloc (.cells #[.int .u8 (n : Int)] 5)) :=
    run_convert_bytes_arg _ 178 5 (by kernel_rfl) (by kernel_rfl) _ 0 1 1 [(n : Int)] rfl (fun i hi => by
      have : i = 0 := by omega
      subst this; rw [(Blk.new w _ _).cell]; rfl) _ (by kernel_rfl)
  generalize strOfNums [(n : Int)] = S at *
  go_enter Try.func116, Try.ntmps116
  go_wp2
  go_ret
  exact ⟨rfl, (Mod.refl _ _).alloc _⟩

theorem refnum_large (n : Nat) (h0 : 247 < n) (hn : n < 18446744073709551616) (w : World) :
    Calls Try.prog 116 #[.int .u64 n] w fun e w' => e = .returned (.string (Bt.numS n)) ∧ Mod w w' [] := by
  have hb := Bt.bl_le n
  have hbi := fun k hk => Bt.bl_iff n k hn hk
  have HBI := Lib.hid hbi
  have hk1 : 1 ≤ Bt.bl n := by
    rcases Bt.bl_cases n hn with h | h | h | h | h | h | h | h | h <;> omega
  clear hbi
  have hn0 : 247 < (n : Int) := by omega
  go_enter Try.func116, Try.ntmps116
  go_wp2_with fail
  go_loop [3] (fun vk => ∃ k : Nat, 1 ≤ k ∧ k ≤ Bt.bl n ∧ vk = .int .i64 k) (fun vk => 9 - (intOf vk).toNat)
  case atStart => exact ⟨1, by omega, by omega, rfl⟩
  case round =>
    obtain ⟨k, hk0, hk, rfl⟩ := hrel
    have hbk := HBI.out k (by omega)
    by_cases hlt : k < Bt.bl n
    · have hpos : 0 < (n : Int) / 2 ^ (8 * k) := by rw [pow_cast]; have := hbk.2 hlt; omega
      clear hbk
      have hk8 : (k : Int) < 8 := by omega
      go_wp2_with fail
      go_round
      case rel => exact ⟨k + 1, by omega, by omega, by go_num⟩
      case measure => simp [intOf]; omega
    · have hkn : Hid (k = Bt.bl n) := Lib.hid (by omega)
      have hneg : (n : Int) / 2 ^ (8 * k) ≤ 0 := by rw [pow_cast]; omega
      have hk8 : k ≤ 8 := by omega
      clear hbk hlt hk hb hk1
      by_cases h8 : (k : Int) < 8
      all_goals
        go_wp2_with fail
        go_loopw [4, 5] (fun vb vi wr => ∃ j : Nat, j ≤ k ∧ vi = .int .i64 ((j : Int) - 1) ∧ Mod w wr [] ∧ wr.ownsRow w.heap.size 5 1 vb (k - j + 1) (((247 + (k : Int)) :: (Bt.be k n).take (k - j)).map (Value.int .u8))) (fun _ vi _ => (intOf vi + 1).toNat)
        case atStart =>
          refine ⟨k, by omega, rfl, (Mod.refl _ _).alloc _, ?_⟩
          simp only [Nat.sub_self, List.take_zero]
          exact ⟨rfl, .inr ⟨w.heap.size, 1, #[.int .u8 (247 + (k : Int))], rfl, Nat.le_refl _, Blk.new _ _ _, by omega, by unfold maxLen; omega, rfl, rfl⟩⟩
        case round =>
          obtain ⟨j, hj, rfl, hmod, hown⟩ := hrel
          have HM := Lib.hid hmod
          clear hmod
          by_cases hj0 : 0 < j
          · obtain ⟨i, rfl⟩ : ∃ i, j = i + 1 := ⟨j - 1, by omega⟩
            rw [show ((i + 1 : Nat) : Int) - 1 = (i : Int) by omega] at *
            have hlen : k - (i + 1) + 1 ≤ 8 := by omega
            have hi8 : (i : Int) ≤ 7 := by omega
            have HX : Hid ((n : Int) / 2 ^ (8 * i) % 256 = ((n / 256 ^ i % 256 : Nat) : Int)) := Lib.hid (by rw [pow_cast, Int.natCast_emod]; rfl)
            obtain ⟨i0, hi, hz0, hz1, hz2⟩ := info_parts info_u8
            have hge := own_ge hown
            have HG := Lib.hid hge
            clear hge
            obtain ⟨L, hL⟩ : ∃ L, L = ((247 + (k : Int)) :: (Bt.be k n).take (k - (i + 1))).map (Value.int .u8) := ⟨_, rfl⟩
            rw [← hL] at hown
            have HL := Lib.hid hL
            clear hL
            go_wp2_with ((at_builtin; refine wpList_append_own _ rfl _ _ 178 rfl (w.heap.size) 5 i0 (.int .u8 0) 1 1 Try.underlying178 hi hz0 hz1 hz2 rfl (by decide) _ _ _ rfl (hown.alloc _) ⟨wr.heap.size, 0, none⟩ 1 1 [.int .u8 ((n : Int) / 2 ^ (8 * i) % 256)] rfl rfl (cell_one_new _ _ _) (by simp [Value.oneCell']) (by unfold maxLen; omega) (by omega) (by have := HM.out.size; simp; omega) ?_; intro v' w1 hown' hgrow hnil; clear hnil))
            go_roundw
            case rel =>
              refine ⟨i, by omega, rfl, (HM.out.alloc _).grown hgrow (fun k hk => .inr (HG.out k hk)), ?_⟩
              rw [HX.out, HL.out] at hown'
              rw [show k - i = k - (i + 1) + 1 by omega, be_take_step k n (k - (i + 1)) (by omega), show k - 1 - (k - (i + 1)) = i by omega]
              simpa using hown'
            case measure => simp [intOf]
          · obtain rfl : j = 0 := by omega
            obtain ⟨g, cap, rfl, hg, hcap, hmx, hlen, hcell⟩ := (own_cell hown).resolve_left (by simp)
            have hconv : (convert 178 9 (.slice (some ⟨g, 0, none⟩) (k - 0 + 1) cap)).run Try.prog wr = .ok (.string (strOfNums ((247 + (k : Int)) :: Bt.be k n))) wr :=
              run_convert_bytes_arg _ 178 5 (by kernel_rfl) (by kernel_rfl) _ 0 (k - 0 + 1) cap ((247 + (k : Int)) :: Bt.be k n) (by simp [Bt.be_length]) (fun i hi => by
                have hi' : i < ((247 + (k : Int)) :: Bt.be k n).length := by simp [Bt.be_length]; omega
                have htake : (Bt.be k n).take (k - 0) = Bt.be k n := by rw [List.take_of_length_le]; simp [Bt.be_length]
                have := hcell i (by rw [hlen]; exact hi)
                rw [Nat.zero_add, this, List.getD_eq_getElem?_getD, List.getElem?_eq_getElem hi', List.getElem_map]
                simp only [htake]; rfl) _ (by kernel_rfl)
            have hS : Hid (Bt.numS n = strOfNums ((247 + (k : Int)) :: Bt.be k n)) := Lib.hid (by
              unfold Bt.numS Bt.numL; rw [if_neg (by omega), ← hkn.out, show ((247 + k : Nat) : Int) = 247 + (k : Int) by omega])
            generalize strOfNums ((247 + (k : Int)) :: Bt.be k n) = S at *
            clear hcell hown hlen
            simp only [Nat.sub_zero] at hconv
            rw [show ((0 : Nat) : Int) - 1 = -1 by omega]
            go_wp2
            go_ret
            exact ⟨ret_str hS.out.symm, HM.out⟩

theorem refnum_calls (n : Nat) (hn : n < 18446744073709551616) (w : World) :
    Calls Try.prog 116 #[.int .u64 n] w fun e w' => e = .returned (.string (Bt.numS n)) ∧ Mod w w' [] := by
  by_cases h : n ≤ 247
  · exact refnum_small n h w
  · exact refnum_large n (by omega) hn w
end Go.Proofs.Ytgmenlfhkhdbdaa.Bits
