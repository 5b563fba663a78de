/- What is written is read: numbers, texts, real numbers ahead of more bytes. -/
import Derived.Test.YtgmenlfhkhdbdaaBk
namespace Go.Proofs.Ytgmenlfhkhdbdaa.Bt
set_option linter.unusedSimpArgs false
set_option linter.unusedVariables false

theorem bytesOf_app (l : List Int) (r : ByteArray) (a k : Nat) (hl : ∀ x ∈ l, 0 ≤ x ∧ x ≤ 255) (h : a + k ≤ l.length) : bytesOf (strOfNums l ++ r) a k = (l.drop a).take k := by
  unfold bytesOf
  rw [app_data, strOfNums_data, List.drop_append_of_le_length (by simp; omega), List.take_append_of_le_length (by simp; omega), ← List.map_drop, ← List.map_take, List.map_map]
  conv => rhs; rw [← List.map_id ((l.drop a).take k)]
  apply List.map_congr_left
  intro x hx
  have := hl x (List.mem_of_mem_drop (List.mem_of_mem_take hx))
  show ((UInt8.ofNat x.toNat).toNat : Int) = x
  rw [UInt8.toNat_ofNat']
  omega
theorem byt_app (x : Int) (l : List Int) (r : ByteArray) (h : 0 ≤ x ∧ x ≤ 255) : byt (strOfNums (x :: l) ++ r) 0 = x.toNat := by
  unfold byt
  rw [app_data, strOfNums_data]
  show (UInt8.ofNat x.toNat).toNat = x.toNat
  rw [UInt8.toNat_ofNat']
  omega
theorem extract_app (a r : ByteArray) : (a ++ r).extract 0 a.size = a := by
  apply ext_list
  rw [Lib.extract_data, List.drop_zero, Nat.sub_zero, app_data, List.take_append_of_le_length (by rw [size_data]; exact Nat.le_refl _), List.take_of_length_le (by rw [size_data]; exact Nat.le_refl _)]
theorem extract_rest (a r : ByteArray) : (a ++ r).extract a.size (a ++ r).size = r := by
  apply ext_list
  have h1 := size_data r
  have h2 := size_data a
  rw [Lib.extract_data, app_data, ByteArray.size_append, ← h2, List.drop_left, Nat.add_sub_cancel_left, ← h1, List.take_of_length_le (Nat.le_refl _)]
theorem numD_app (n : Nat) (hn : n < 18446744073709551616) (r : ByteArray) : numD (numS n ++ r) = (n, (numS n).size, 0) := by
  have hz : (numS n ++ r).size = (numS n).size + r.size := ByteArray.size_append
  have hp := numS_size_pos n
  by_cases h : n ≤ 247
  · have hl : numL n = [(n : Int)] := by unfold numL; rw [if_pos h]
    have hb : byt (numS n ++ r) 0 = n := by
      unfold numS
      rw [hl, byt_app _ _ _ (by omega)]
      rfl
    have hs : (numS n).size = 1 := by unfold numS; rw [strOfNums_size, hl]; rfl
    unfold numD
    rw [if_neg (by omega), hb, if_pos h, hs]
  · have hl : numL n = ((247 + bl n : Nat) : Int) :: be (bl n) n := by unfold numL; rw [if_neg h]
    have hk := bl_le n
    have hb : byt (numS n ++ r) 0 = 247 + bl n := by
      unfold numS
      rw [hl, byt_app _ _ _ (by omega)]
      omega
    have hs : (numS n).size = bl n + 1 := by unfold numS; rw [strOfNums_size, hl, List.length_cons, be_length]
    have h0 : 0 < bl n := (bl_iff n 0 hn (by omega)).1 (by simp; omega)
    have hv : val (bytesOf (numS n ++ r) 1 (bl n)) 0 = n := by
      unfold numS
      rw [bytesOf_app _ _ _ _ (numL_bytes n) (by rw [hl, List.length_cons, be_length]; omega), hl, List.drop_succ_cons, List.drop_zero, List.take_of_length_le (by rw [be_length]; exact Nat.le_refl _), val_be, Nat.zero_mul, Nat.zero_add, Nat.mod_eq_of_lt (bl_lt n hn)]
    have he : byt (numS n ++ r) 0 - 247 = bl n := by omega
    have hf := form_iff (numS n ++ r) (by omega) (by omega)
    rw [he, hv] at hf
    have hg := hf.1 (by rw [← hs, extract_app])
    unfold numD
    rw [if_neg (by omega), if_neg (by omega), he, if_neg (by omega), hv, if_neg hg, hs]
end Go.Proofs.Ytgmenlfhkhdbdaa.Bt
