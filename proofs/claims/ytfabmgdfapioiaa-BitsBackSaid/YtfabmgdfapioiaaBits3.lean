/- The contracts of whole numbers, texts and flags as bytes. -/
import Derived.Test.YtfabmgdfapioiaaBits2
namespace Go.Proofs.Ytfabmgdfapioiaa.Bits
open Go.RowKit Mem
set_option linter.unusedSimpArgs false
set_option linter.unusedVariables false
set_option maxRecDepth 100000

def fold (n : Int) : Nat := if 0 ≤ n then (2 * n).toNat else (-2 * n - 1).toNat

theorem fold_lt (n : Int) (h1 : -9223372036854775808 ≤ n) (h2 : n ≤ 9223372036854775807) : fold n < 18446744073709551616 := by
  unfold fold; split <;> omega

theorem xor_pos (n : Int) (h : 0 ≤ n) (h2 : n ≤ 9223372036854775807) : bits BinOp.xor IntKind.u64 (n * 2) (n / 9223372036854775808) = ((fold n : Nat) : Int) := by
  obtain ⟨m, rfl⟩ := Int.eq_ofNat_of_zero_le h
  have e1 : (m : Int) * 2 = ((2 * m : Nat) : Int) := by omega
  have e2 : (m : Int) / 9223372036854775808 = ((0 : Nat) : Int) := by omega
  rw [e1, e2, bits_xor_u64_nat (2 * m) 0 (by omega) (by omega), Nat.xor_zero]
  unfold fold; rw [if_pos h]; omega

theorem xor_neg (n : Int) (h1 : -9223372036854775808 ≤ n) (h : n < 0) : bits BinOp.xor IntKind.u64 (IntKind.u64.wrap (IntKind.u64.wrap n * 2)) (IntKind.u64.wrap (n / 9223372036854775808)) = ((fold n : Nat) : Int) := by
  have e1 : IntKind.u64.wrap (IntKind.u64.wrap n * 2) = (((2 * n + 18446744073709551616).toNat : Nat) : Int) := by
    simp only [IntKind.wrap_u64]; omega
  have e2 : IntKind.u64.wrap (n / 9223372036854775808) = ((18446744073709551615 : Nat) : Int) := by
    simp only [IntKind.wrap_u64]; omega
  have ha : (2 * n + 18446744073709551616).toNat < 18446744073709551616 := by omega
  rw [e1, e2, bits_xor_u64_nat _ _ ha (by omega)]
  have e3 : (2 * n + 18446744073709551616).toNat ^^^ 18446744073709551615 = 18446744073709551615 - (2 * n + 18446744073709551616).toNat := by
    generalize (2 * n + 18446744073709551616).toNat = a at *
    have h1 : (~~~ (BitVec.ofNat 64 a)).toNat = 18446744073709551615 - a := by
      rw [BitVec.toNat_not, BitVec.toNat_ofNat, Nat.mod_eq_of_lt ha]
    rw [← h1, ← BitVec.xor_allOnes, BitVec.toNat_xor, BitVec.toNat_ofNat, Nat.mod_eq_of_lt ha]
    rfl
  rw [e3]
  unfold fold; rw [if_neg (by omega)]; omega

theorem folded_calls (n : Int) (h1 : -9223372036854775808 ≤ n) (h2 : n ≤ 9223372036854775807) (w : World) :
    Calls Try.prog 30 #[.int .i64 n] w fun e w' => e = .returned (.int .u64 (fold n)) ∧ w = w' := by
  by_cases h : 0 ≤ n
  · go_enter Try.func30, Try.ntmps30
    go_wp2
    go_ret
    exact ⟨ret_int (xor_pos n h h2), rfl⟩
  · go_enter Try.func30, Try.ntmps30
    go_wp2
    go_ret
    exact ⟨ret_int (xor_neg n h1 (by omega)), rfl⟩

theorem int_calls (n : Int) (h1 : -9223372036854775808 ≤ n) (h2 : n ≤ 9223372036854775807) (w : World) :
    Calls Try.prog 15 #[.int .i64 n] w fun e w' => e = .returned (.string (Bt.numS (fold n))) ∧ Mod w w' [] := by
  go_enter Try.func15, Try.ntmps15
  go_wp2_with (first | (go_at_call 30; refine (folded_calls n h1 h2 _).mono ?_; rintro e w' ⟨rfl, rfl⟩) | (go_at_call 14; refine (num_calls (fold n) (fold_lt n h1 h2) _).mono ?_; rintro e w' ⟨rfl, hm⟩))
  go_ret
  exact ⟨rfl, hm⟩

theorem text_calls (s : ByteArray) (hs : s.size ≤ 140737488355328) (w : World) :
    Calls Try.prog 28 #[.string s] w fun e w' => e = .returned (.string (Bt.numS s.size ++ s)) ∧ Mod w w' [] := by
  have hb := Bt.numS_size_le s.size
  go_enter Try.func28, Try.ntmps28
  go_wp2_with (go_at_call 14; refine (num_calls s.size (by omega) _).mono ?_; rintro e w' ⟨rfl, hm⟩)
  go_ret
  exact ⟨rfl, hm⟩

def flagS (b : Bool) : ByteArray := if b then ⟨#[1]⟩ else ⟨#[0]⟩
theorem flag_calls (b : Bool) (w : World) :
    Calls Try.prog 29 #[.bool b] w fun e w' => e = .returned (.string (flagS b)) ∧ w = w' := by
  cases b
  all_goals
    go_enter Try.func29, Try.ntmps29
    go_wp2
    go_ret
    exact ⟨rfl, rfl⟩
end Go.Proofs.Ytfabmgdfapioiaa.Bits
