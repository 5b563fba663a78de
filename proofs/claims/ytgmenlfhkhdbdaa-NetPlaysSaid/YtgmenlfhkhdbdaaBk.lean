/- What is read has one form, and what is written is read: plain facts. -/
import Derived.Test.YtgmenlfhkhdbdaaBd
import Derived.Lib.Strings
namespace Go.Proofs.Ytgmenlfhkhdbdaa.Bt
set_option linter.unusedSimpArgs false
set_option linter.unusedVariables false

theorem ext_list {a b : ByteArray} (h : a.data.toList = b.data.toList) : a = b := ByteArray.ext (Array.ext' h)
theorem app_data (a b : ByteArray) : (a ++ b).data.toList = a.data.toList ++ b.data.toList := by
  rw [ByteArray.data_append, Array.toList_append]
theorem size_data (s : ByteArray) : s.data.toList.length = s.size := by simp

theorem split_at (s : ByteArray) (k : Nat) (h : k ≤ s.size) : s.extract 0 k ++ s.extract k s.size = s := by
  apply ext_list
  rw [app_data, Lib.extract_data, Lib.extract_data, List.drop_zero]
  have := size_data s
  rw [Nat.sub_zero, List.take_of_length_le (l := List.drop k s.data.toList) (by rw [List.length_drop]; omega), List.take_append_drop]
theorem split_two (s : ByteArray) (k n : Nat) (h : k + n ≤ s.size) : s.extract 0 k ++ s.extract k (k + n) = s.extract 0 (k + n) := by
  apply ext_list
  rw [app_data, Lib.extract_data, Lib.extract_data, Lib.extract_data, List.drop_zero]
  have := size_data s
  rw [Nat.sub_zero, Nat.sub_zero, Nat.add_sub_cancel_left, List.take_add]

theorem numD_form (s : ByteArray) (h : (numD s).2.2 = 0) : numS (numD s).1 = s.extract 0 (numD s).2.1 := by
  have hb := byt_lt s 0
  unfold numD at h ⊢
  by_cases h0 : s.size = 0
  · rw [if_pos h0] at h; simp at h
  rw [if_neg h0] at h ⊢
  by_cases h1 : byt s 0 ≤ 247
  · rw [if_pos h1]
    show numS (byt s 0) = s.extract 0 1
    unfold numS numL
    rw [if_pos h1]
    apply ext_list
    rw [strOfNums_data, Lib.extract_data, List.drop_zero]
    have hl := size_data s
    unfold byt
    cases hq : s.data.toList with
    | nil => rw [hq] at hl; simp at hl; omega
    | cons b l => simp
  rw [if_neg h1] at h ⊢
  by_cases h2 : s.size ≤ byt s 0 - 247
  · rw [if_pos h2] at h; simp at h
  rw [if_neg h2] at h ⊢
  by_cases h3 : byt s 1 = 0 ∨ val (bytesOf s 1 (byt s 0 - 247)) 0 ≤ 247
  · rw [if_pos h3] at h; simp at h
  rw [if_neg h3]
  have h4 := (form_iff s (by omega) (by omega)).2 h3
  generalize val (bytesOf s 1 (byt s 0 - 247)) 0 = v at h4 ⊢
  show numS v = s.extract 0 (byt s 0 - 247 + 1)
  exact h4
end Go.Proofs.Ytgmenlfhkhdbdaa.Bt
