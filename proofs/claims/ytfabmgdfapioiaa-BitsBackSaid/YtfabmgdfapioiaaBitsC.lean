/- What each kind of thing is as bytes; the contract of 'written'; the plain laws of BitsOne. -/
import Derived.Test.YtfabmgdfapioiaaBitsA
import Derived.Test.YtfabmgdfapioiaaBk
namespace Go.Proofs.Ytfabmgdfapioiaa.Bits
open Go.RowKit Mem
set_option linter.unusedSimpArgs false
set_option linter.unusedVariables false
set_option maxRecDepth 100000

theorem fold_unfoldI (n : Nat) : fold (unfoldI n) = n := by
  unfold fold unfoldI
  split
  · rename_i h; rw [if_pos (by omega)]; omega
  · rename_i h; rw [if_neg (by omega)]; omega
theorem unfoldI_fold (m : Int) : unfoldI (fold m) = m := by
  unfold fold unfoldI
  by_cases h : 0 ≤ m
  · rw [if_pos h, if_pos (by omega)]; omega
  · rw [if_neg h, if_neg (by omega)]; omega
theorem unfoldI_bd (n : Nat) (h : n < 18446744073709551616) : -9223372036854775808 ≤ unfoldI n ∧ unfoldI n ≤ 9223372036854775807 := by
  unfold unfoldI; split <;> omega

abbrev thingV (k n : Nat) (m : Int) (f : Nat) (s : ByteArray) (b : Bool) : Value := .agg #[.int .u8 k, .int .u64 n, .int .i64 m, .float .f64 f, .string s, .bool b]

def wrS (k n : Nat) (m : Int) (f : Nat) (s : ByteArray) (b : Bool) : ByteArray :=
  if k % 5 = 0 then Bt.numS n else if k % 5 = 1 then Bt.numS (fold m) else if k % 5 = 2 then realS f else if k % 5 = 3 then Bt.numS s.size ++ s else flagS b

theorem written_calls (k n : Nat) (m : Int) (f : Nat) (s : ByteArray) (b : Bool) (hk : k < 256) (hn : n < 18446744073709551616) (m1 : -9223372036854775808 ≤ m) (m2 : m ≤ 9223372036854775807) (hf : f < 18446744073709551616) (hs : s.size ≤ 140737488355328) (w : World) :
    Calls Try.prog 11 #[thingV k n m f s b] w fun e w' => e = .returned (.string (wrS k n m f s b)) ∧ Mod w w' [] := by
  have n1 := fun w => num_calls n hn w
  have n2 := fun w => int_calls m m1 m2 w
  have n3 := fun w => real_calls f hf w
  have n4 := fun w => text_calls s hs w
  have n5 := fun w => flag_calls b w
  have hW : wrS k n m f s b = if k % 5 = 0 then Bt.numS n else if k % 5 = 1 then Bt.numS (fold m) else if k % 5 = 2 then realS f else if k % 5 = 3 then Bt.numS s.size ++ s else flagS b := rfl
  generalize wrS k n m f s b = W at *
  generalize Bt.numS n = S1 at *
  generalize Bt.numS (fold m) = S2 at *
  generalize realS f = S3 at *
  generalize Bt.numS s.size ++ s = S4 at *
  generalize flagS b = S5 at *
  have N1 := Lib.hid n1
  have N2 := Lib.hid n2
  have N3 := Lib.hid n3
  have N4 := Lib.hid n4
  have N5 := Lib.hid n5
  clear n1 n2 n3 n4 n5 hn m1 m2 hf hs
  have hr : k % 5 = 0 ∨ k % 5 = 1 ∨ k % 5 = 2 ∨ k % 5 = 3 ∨ k % 5 = 4 := by omega
  rcases hr with h | h | h | h | h
  · rw [if_pos h] at hW
    subst hW
    have h1 : (k : Int) % 5 = 0 := by omega
    clear h
    go_enter Try.func11, Try.ntmps11
    go_wp2_with fail
    refine (N1.out _).mono ?_
    rintro e w1 ⟨rfl, hm1⟩
    go_wp2_with fail
    go_ret
    exact ⟨rfl, ((Mod.refl w []).alloc _).trans0 hm1⟩
  · rw [if_neg (by omega)] at hW; rw [if_pos h] at hW
    subst hW
    have h1 : (k : Int) % 5 = 1 := by omega
    clear h
    go_enter Try.func11, Try.ntmps11
    go_wp2_with fail
    refine (N2.out _).mono ?_
    rintro e w1 ⟨rfl, hm1⟩
    go_wp2_with fail
    go_ret
    exact ⟨rfl, ((Mod.refl w []).alloc _).trans0 hm1⟩
  · rw [if_neg (by omega)] at hW; rw [if_neg (by omega)] at hW; rw [if_pos h] at hW
    subst hW
    have h1 : (k : Int) % 5 = 2 := by omega
    clear h
    go_enter Try.func11, Try.ntmps11
    go_wp2_with fail
    refine (N3.out _).mono ?_
    rintro e w1 ⟨rfl, hm1⟩
    go_wp2_with fail
    go_ret
    exact ⟨rfl, ((Mod.refl w []).alloc _).trans0 hm1⟩
  · rw [if_neg (by omega)] at hW; rw [if_neg (by omega)] at hW; rw [if_neg (by omega)] at hW; rw [if_pos h] at hW
    subst hW
    have h1 : (k : Int) % 5 = 3 := by omega
    clear h
    go_enter Try.func11, Try.ntmps11
    go_wp2_with fail
    refine (N4.out _).mono ?_
    rintro e w1 ⟨rfl, hm1⟩
    go_wp2_with fail
    go_ret
    exact ⟨rfl, ((Mod.refl w []).alloc _).trans0 hm1⟩
  · rw [if_neg (by omega)] at hW; rw [if_neg (by omega)] at hW; rw [if_neg (by omega)] at hW; rw [if_neg (by omega)] at hW; 
    subst hW
    have h1 : (k : Int) % 5 = 4 := by omega
    clear h
    go_enter Try.func11, Try.ntmps11
    go_wp2_with fail
    refine (N5.out _).mono ?_
    rintro e w1 ⟨rfl, rfl⟩
    go_wp2_with fail
    go_ret
    exact ⟨rfl, (Mod.refl w []).alloc _⟩

/-- What is read has one form. -/
theorem num_form (s : ByteArray) (h : tE s 0 = 0) : Bt.numS (tN s 0) ++ tS s 0 = s := by
  have hd := Bt.numD_facts s
  unfold tN tS tE at *
  rw [if_pos rfl] at *
  rw [if_pos rfl, Bt.numD_form s h]
  exact Bt.split_at s _ hd.2.1
theorem num_none (s : ByteArray) (h : tE s 0 ≠ 0) : tN s 0 = 0 ∧ tS s 0 = s := by
  have hd := Bt.numD_facts s
  unfold tN tS tE at *
  rw [if_pos rfl] at *
  rw [if_pos rfl]
  obtain ⟨h1, h2⟩ := hd.2.2.2.2.1 h
  refine ⟨h1, ?_⟩
  rw [h2]
  apply Bt.ext_list
  rw [Lib.extract_data, List.drop_zero, Nat.sub_zero, List.take_of_length_le (by rw [Bt.size_data]; exact Nat.le_refl _)]
theorem text_form (s : ByteArray) (most : Int) (h : (textR s 0 most).2.2 = 0) : Bt.numS (textR s 0 most).1.size ++ (textR s 0 most).1 ++ (textR s 0 most).2.1 = s := by
  have hd := Bt.numD_facts s
  rw [textR0] at *
  by_cases h1 : (Bt.numD s).2.2 ≠ 0
  · rw [if_pos h1] at h; exact absurd h h1
  rw [if_neg h1] at *
  by_cases h2 : max most 0 < (Bt.numD s).1
  · rw [if_pos h2] at h; simp at h
  rw [if_neg h2] at *
  by_cases h3 : s.size - (Bt.numD s).2.1 < (Bt.numD s).1
  · rw [if_pos h3] at h; simp at h
  rw [if_neg h3]
  have hf := Bt.numD_form s (by simpa using h1)
  generalize Bt.numD s = D at *
  obtain ⟨n, k, e⟩ := D
  simp only at *
  have hsz : (s.extract k (k + n)).size = n := by rw [ByteArray.size_extract]; omega
  rw [hsz, hf, Bt.split_two s k n (by omega)]
  exact Bt.split_at s _ (by omega)
theorem text_none (s : ByteArray) (most : Int) (h : (textR s 0 most).2.2 ≠ 0) : (textR s 0 most).1 = ⟨#[]⟩ ∧ (textR s 0 most).2.1 = s := by
  rw [textR0] at *
  by_cases h1 : (Bt.numD s).2.2 ≠ 0
  · rw [if_pos h1]; exact ⟨rfl, rfl⟩
  rw [if_neg h1] at *
  by_cases h2 : max most 0 < (Bt.numD s).1
  · rw [if_pos h2]; exact ⟨rfl, rfl⟩
  rw [if_neg h2] at *
  by_cases h3 : s.size - (Bt.numD s).2.1 < (Bt.numD s).1
  · rw [if_pos h3]; exact ⟨rfl, rfl⟩
  rw [if_neg h3] at h
  simp at h
theorem flag_form (s : ByteArray) (h : (flagR s 0).2.2 = 0) : flagS (flagR s 0).1 ++ (flagR s 0).2.1 = s := by
  unfold flagR at *
  rw [if_neg (by simp)] at *
  by_cases h1 : s.size = 0
  · rw [if_pos h1] at h; simp at h
  rw [if_neg h1] at *
  by_cases h2 : 1 < Bt.byt s 0
  · rw [if_pos h2] at h; simp at h
  rw [if_neg h2]
  show flagS (decide (Bt.byt s 0 = 1)) ++ s.extract 1 s.size = s
  have hs := Bt.split_at s 1 (by omega)
  have h3 : flagS (decide (Bt.byt s 0 = 1)) = s.extract 0 1 := by
    have hl := Bt.size_data s
    apply Bt.ext_list
    rw [Lib.extract_data, List.drop_zero]
    unfold Bt.byt at *
    cases hq : s.data.toList with
    | nil => rw [hq] at hl; simp at hl; omega
    | cons b l =>
      rw [hq] at h2
      simp at h2 ⊢
      have hb : b.toNat = 0 ∨ b.toNat = 1 := by omega
      rcases hb with hb | hb
      · have : b = 0 := by rw [← UInt8.toNat_inj]; exact hb
        subst this; rfl
      · have : b = 1 := by rw [← UInt8.toNat_inj]; exact hb
        subst this; rfl
  rw [h3]; exact hs
theorem flag_none (s : ByteArray) (h : (flagR s 0).2.2 ≠ 0) : (flagR s 0).1 = false ∧ (flagR s 0).2.1 = s := by
  unfold flagR at *
  rw [if_neg (by simp)] at *
  by_cases h1 : s.size = 0
  · rw [if_pos h1]; exact ⟨rfl, rfl⟩
  rw [if_neg h1] at *
  by_cases h2 : 1 < Bt.byt s 0
  · rw [if_pos h2]; exact ⟨rfl, rfl⟩
  rw [if_neg h2] at h
  simp at h
theorem real_form (s : ByteArray) (h : (realR s 0).2.2 = 0) : realS (realR s 0).1 ++ (realR s 0).2.1 = s := by
  unfold realR at *
  rw [if_neg (by simp)] at *
  by_cases h1 : s.size < 8
  · rw [if_pos h1] at h; simp at h
  rw [if_neg h1] at *
  have hv := val_bd0 s 8 8 (Nat.le_refl _) (by omega)
  rw [List.take_of_length_le (by rw [Bt.bytesOf_length s 0 8 (by omega)]; exact Nat.le_refl _)] at hv
  by_cases h2 : Fl.nanB (Bt.val (Bt.bytesOf s 0 8) 0) = true ∧ Bt.val (Bt.bytesOf s 0 8) 0 ≠ 9221120237041090561
  · rw [if_pos h2] at h; simp at h
  rw [if_neg h2]
  have hc : canB (Bt.val (Bt.bytesOf s 0 8) 0) = Bt.val (Bt.bytesOf s 0 8) 0 := by
    unfold canB
    split
    · rename_i hn
      by_cases h3 : Bt.val (Bt.bytesOf s 0 8) 0 = 9221120237041090561
      · rw [h3]
      · exact absurd ⟨hn, h3⟩ h2
    · rfl
  have hs : realS (Bt.val (Bt.bytesOf s 0 8) 0) = s.extract 0 8 := by
    unfold realS
    rw [hc]
    have hb := Bt.be_val (Bt.bytesOf s 0 8) 0 (Bt.bytesOf_bytes s 0 8)
    rw [Bt.bytesOf_length s 0 8 (by omega)] at hb
    rw [hb]
    apply Bt.ext_list
    rw [strOfNums_data, Lib.extract_data]
    unfold Bt.bytesOf
    rw [List.map_map, Nat.sub_zero]
    conv => rhs; rw [← List.map_id (List.take 8 (List.drop 0 s.data.toList))]
    apply List.map_congr_left
    intro b _
    simp
  have h9 := Bt.split_at s 8 (by omega)
  generalize Bt.val (Bt.bytesOf s 0 8) 0 = v at *
  show realS v ++ s.extract 8 s.size = s
  rw [hs]; exact h9
theorem real_none (s : ByteArray) (h : (realR s 0).2.2 ≠ 0) : (realR s 0).1 = 0 ∧ (realR s 0).2.1 = s := by
  unfold realR at *
  rw [if_neg (by simp)] at *
  by_cases h1 : s.size < 8
  · rw [if_pos h1]; exact ⟨rfl, rfl⟩
  rw [if_neg h1] at *
  by_cases h2 : Fl.nanB (Bt.val (Bt.bytesOf s 0 8) 0) = true ∧ Bt.val (Bt.bytesOf s 0 8) 0 ≠ 9221120237041090561
  · rw [if_pos h2]; exact ⟨rfl, rfl⟩
  rw [if_neg h2] at h
  simp at h
theorem realR_lt (s : ByteArray) (e : Int) : (realR s e).1 < 18446744073709551616 := by
  unfold realR
  split
  · show (0 : Nat) < 18446744073709551616; decide
  split
  · show (0 : Nat) < 18446744073709551616; decide
  have hv := val_bd0 s 8 8 (Nat.le_refl _) (by omega)
  rw [List.take_of_length_le (by rw [Bt.bytesOf_length s 0 8 (by omega)]; exact Nat.le_refl _)] at hv
  split
  · show (0 : Nat) < 18446744073709551616; decide
  · exact hv
end Go.Proofs.Ytfabmgdfapioiaa.Bits
