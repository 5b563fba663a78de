/- The contracts of whole numbers, texts and flags as bytes. -/
import Derived.Test.YtgmenlfhkhdbdaaBits2
namespace Go.Proofs.Ytgmenlfhkhdbdaa.Bits
open Go.RowKit Mem
set_option linter.unusedSimpArgs false
set_option linter.unusedVariables false
set_option maxRecDepth 100000

def fold (n : Int) : Nat := if 0 ≤ n then (2 * n).toNat else (-2 * n - 1).toNat

theorem fold_lt (n : Int) (h1 : -9223372036854775808 ≤ n) (h2 : n ≤ 9223372036854775807) : fold n < 18446744073709551616 := by
  unfold fold; split <;> omega

theorem xor_pos (n : Int) (h : 0 ≤ n) (h2 : n ≤ 9223372036854775807) : bits BinOp.xor IntKind.u64 (n * 2) (n / 9223372036854775808) = ((fold n : Nat) : Int) := by
  obtain ⟨m, rfl⟩ := Int.eq_ofNat_of_zero_le h
  have e1 : (m : Int) * 2 = ((2 * m : Nat) : Int) := by omega
  have e2 : (m : Int) / 9223372036854775808 = ((0 : Nat) : Int) := by omega
  rw [e1, e2, bits_xor_u64_nat (2 * m) 0 (by omega) (by omega), Nat.xor_zero]
  unfold fold; rw [if_pos h]; omega

theorem xor_neg (n : Int) (h1 : -9223372036854775808 ≤ n) (h : n < 0) : bits BinOp.xor IntKind.u64 (IntKind.u64.wrap (IntKind.u64.wrap n * 2)) (IntKind.u64.wrap (n / 9223372036854775808)) = ((fold n : Nat) : Int) := by
  have e1 : IntKind.u64.wrap (IntKind.u64.wrap n * 2) = (((2 * n + 18446744073709551616).toNat : Nat) : Int) := by
    simp only [IntKind.wrap_u64]; omega
  have e2 : IntKind.u64.wrap (n / 9223372036854775808) = ((18446744073709551615 : Nat) : Int) := by
    simp only [IntKind.wrap_u64]; omega
  have ha : (2 * n + 18446744073709551616).toNat < 18446744073709551616 := by omega
  rw [e1, e2, bits_xor_u64_nat _ _ ha (by omega)]
  have e3 : (2 * n + 18446744073709551616).toNat ^^^ 18446744073709551615 = 18446744073709551615 - (2 * n + 18446744073709551616).toNat := by
    generalize (2 * n + 18446744073709551616).toNat = a at *
    have h1 : (~~~ (BitVec.ofNat 64 a)).toNat = 18446744073709551615 - a := by
      rw [BitVec.toNat_not, BitVec.toNat_ofNat, Nat.mod_eq_of_lt ha]
    rw [← h1, ← BitVec.xor_allOnes, BitVec.toNat_xor, BitVec.toNat_ofNat, Nat.mod_eq_of_lt ha]
    rfl
  rw [e3]
  unfold fold; rw [if_neg (by omega)]; omega

theorem text_calls (s : ByteArray) (hs : s.size ≤ 140737488355328) (w : World) :
    Calls Try.prog 64 #[.string s] w fun e w' => e = .returned (.string (Bt.numS s.size ++ s)) ∧ Mod w w' [] := by
  have hb := Bt.numS_size_le s.size
  go_enter Try.func64, Try.ntmps64
  go_wp2_with (go_at_call 62; refine (num_calls s.size (by omega) _).mono ?_; rintro e w' ⟨rfl, hm⟩)
  go_ret
  exact ⟨rfl, hm⟩

theorem reftext_calls (s : ByteArray) (hs : s.size ≤ 140737488355328) (w : World) :
    Calls Try.prog 67 #[.string s] w fun e w' => e = .returned (.string (Bt.numS s.size ++ s)) ∧ Mod w w' [] := by
  have hb := Bt.numS_size_le s.size
  go_enter Try.func67, Try.ntmps67
  go_wp2_with (go_at_call 116; refine (refnum_calls s.size (by omega) _).mono ?_; rintro e w' ⟨rfl, hm⟩)
  go_ret
  exact ⟨rfl, hm⟩

def flagS (b : Bool) : ByteArray := if b then ⟨#[1]⟩ else ⟨#[0]⟩
theorem flag_calls (b : Bool) (w : World) :
    Calls Try.prog 63 #[.bool b] w fun e w' => e = .returned (.string (flagS b)) ∧ w = w' := by
  cases b
  all_goals
    go_enter Try.func63, Try.ntmps63
    go_wp2
    go_ret
    exact ⟨rfl, rfl⟩
theorem refflag_calls (b : Bool) (w : World) :
    Calls Try.prog 66 #[.bool b] w fun e w' => e = .returned (.string (flagS b)) ∧ w = w' := by
  cases b
  all_goals
    go_enter Try.func66, Try.ntmps66
    go_wp2
    go_ret
    exact ⟨rfl, rfl⟩
end Go.Proofs.Ytgmenlfhkhdbdaa.Bits
