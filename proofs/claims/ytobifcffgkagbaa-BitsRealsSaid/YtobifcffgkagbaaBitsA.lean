/- The contract of chapter 1's example. -/
import Derived.Test.YtobifcffgkagbaaBits9
namespace Go.Proofs.Ytobifcffgkagbaa.Bits
open Go.RowKit Mem
set_option linter.unusedSimpArgs false
set_option linter.unusedVariables false

theorem awake_calls (w : World) : Calls Try.prog 30 #[] w fun e w' => e = .returned (.bool true) ∧ Mod w w' [] := by
  have n1 := fun w => num_calls 247 (by decide) w
  rw [show Bt.numS 247 = ⟨#[247]⟩ by decide +kernel] at n1
  have n2 := fun w => num_calls 256 (by decide) w
  rw [show Bt.numS 256 = ⟨#[249, 1, 0]⟩ by decide +kernel] at n2
  have n3 := fun w => int_calls (-1) (by decide) (by decide) w
  rw [show Bt.numS (fold (-1)) = ⟨#[1]⟩ by decide +kernel] at n3
  have n4 := fun g w hb => Text_calls g ⟨#[2, 97, 98]⟩ 0 9 (by decide) (by decide) w (by decide) hb
  rw [show textR ⟨#[2, 97, 98]⟩ 0 9 = (⟨#[97, 98]⟩, ⟨#[]⟩, 0) by decide +kernel] at n4
  have n5 := fun g w hb => End_calls g ⟨#[]⟩ 0 w hb
  rw [show endE ⟨#[]⟩ 0 = 0 by decide +kernel] at n5
  have N1 := Lib.hid n1
  have N2 := Lib.hid n2
  have N3 := Lib.hid n3
  have N4 := Lib.hid n4
  have N5 := Lib.hid n5
  clear n1 n2 n3 n4 n5
  go_enter Try.func30, Try.ntmps30
  go_wp2_with fail
  refine (at_calls _ _).mono ?_
  rintro e w1 ⟨rfl, hm1, hb1⟩
  go_wp2_with fail
  refine (N1.out _).mono ?_
  rintro e w2 ⟨rfl, hm2⟩
  go_wp2_with fail
  refine (N2.out _).mono ?_
  rintro e w3 ⟨rfl, hm3⟩
  go_wp2_with fail
  refine (N3.out _).mono ?_
  rintro e w4 ⟨rfl, hm4⟩
  have hm14 := (hm2.trans0 hm3).trans0 hm4
  have hb4 : TapeAt w4 w.heap.size ⟨#[2, 97, 98]⟩ 0 := Blk.mod hb1 hm14 (by simp)
  go_wp2_with fail
  refine (N4.out _ _ hb4).mono ?_
  rintro e w5 ⟨rfl, hm5, hb5⟩
  go_wp2_with fail
  refine (N5.out _ _ hb5).mono ?_
  rintro e w6 ⟨rfl, rfl⟩
  go_wp2_with fail
  go_ret
  exact ⟨rfl, (hm1.trans0 hm14).trans hm5 (by simp)⟩

theorem bitsNumbers_calls (w : World) (n : Int) (hn : (Lit.int .u64 n).wf = true) (m : Int) (hm : (Lit.int .i64 m).wf = true) :
    Calls Try.prog 10 #[.int .u64 n, .int .i64 m] w fun e w' => e = .returned (.bool true) ∧ Below w.heap.size w w' := by
  obtain ⟨h0, h1⟩ : 0 ≤ n ∧ n ≤ 18446744073709551615 := by simpa [Lit.wf, IntKind.min, IntKind.max, IntKind.signed, IntKind.bits] using hn
  obtain ⟨h2, h3⟩ : -9223372036854775808 ≤ m ∧ m ≤ 9223372036854775807 := by simpa [Lit.wf, IntKind.min, IntKind.max, IntKind.signed, IntKind.bits] using hm
  obtain ⟨n, rfl⟩ := Int.eq_ofNat_of_zero_le h0
  have n1 := fun w => num_calls n (by omega) w
  have n2 := fun w => refnum_calls n (by omega) w
  have n3 := fun w => int_calls m h2 h3 w
  have n4 := fun w => refint_calls m h2 h3 w
  have N1 := Lib.hid n1
  have N2 := Lib.hid n2
  have N3 := Lib.hid n3
  have N4 := Lib.hid n4
  clear n1 n2 n3 n4 hn hm
  go_enter Try.func10, Try.ntmps10
  go_wp2_with fail
  refine (awake_calls _).mono ?_
  rintro e w1 ⟨rfl, hm1⟩
  go_wp2_with fail
  refine (N1.out _).mono ?_
  rintro e w2 ⟨rfl, hm2⟩
  go_wp2_with fail
  refine (N2.out _).mono ?_
  rintro e w3 ⟨rfl, hm3⟩
  go_wp2_with fail
  refine (N3.out _).mono ?_
  rintro e w4 ⟨rfl, hm4⟩
  go_wp2_with fail
  refine (N4.out _).mono ?_
  rintro e w5 ⟨rfl, hm5⟩
  go_wp2_with fail
  go_ret
  exact ⟨ret_bool (by simp), (((((hm1.trans0 hm2).trans0 hm3).trans0 hm4).trans0 hm5)).below0⟩

theorem bitsTexts_calls (w : World) (s : ByteArray) (hs : s.size ≤ 140737488351232) :
    Calls Try.prog 12 #[.string s] w fun e w' => e = .returned (.bool true) ∧ Below w.heap.size w w' := by
  have n1 := fun w => text_calls s (by omega) w
  have n2 := fun w => reftext_calls s (by omega) w
  have N1 := Lib.hid n1
  have N2 := Lib.hid n2
  clear n1 n2
  go_enter Try.func12, Try.ntmps12
  go_wp2_with fail
  refine (awake_calls _).mono ?_
  rintro e w1 ⟨rfl, hm1⟩
  go_wp2_with fail
  refine (N1.out _).mono ?_
  rintro e w2 ⟨rfl, hm2⟩
  go_wp2_with fail
  refine (N2.out _).mono ?_
  rintro e w3 ⟨rfl, hm3⟩
  go_wp2_with fail
  go_ret
  exact ⟨ret_bool (by simp), ((hm1.trans0 hm2).trans0 hm3).below0⟩

theorem bitsReals_calls (w : World) (f : Nat) (hf : (Lit.float .f64 f).wf = true) (b : Bool) :
    Calls Try.prog 13 #[.float .f64 f, .bool b] w fun e w' => e = .returned (.bool true) ∧ Below w.heap.size w w' := by
  have h1 : f < 18446744073709551616 := by simpa [Lit.wf] using hf
  have n1 := fun w => real_calls f h1 w
  have n2 := fun w => refreal_calls f h1 w
  have N1 := Lib.hid n1
  have N2 := Lib.hid n2
  clear n1 n2
  go_enter Try.func13, Try.ntmps13
  go_wp2_with fail
  refine (awake_calls _).mono ?_
  rintro e w1 ⟨rfl, hm1⟩
  go_wp2_with fail
  refine (N1.out _).mono ?_
  rintro e w2 ⟨rfl, hm2⟩
  go_wp2_with fail
  refine (N2.out _).mono ?_
  rintro e w3 ⟨rfl, hm3⟩
  go_wp2_with fail
  refine (flag_calls _ _).mono ?_
  rintro e w4 ⟨rfl, rfl⟩
  go_wp2_with fail
  refine (refflag_calls _ _).mono ?_
  rintro e w4 ⟨rfl, rfl⟩
  go_wp2_with fail
  go_ret
  exact ⟨ret_bool (by simp), ((hm1.trans0 hm2).trans0 hm3).below0⟩

theorem bitsNil_calls (w : World) (m : Int) (hm : (Lit.int .i64 m).wf = true) :
    Calls Try.prog 14 #[.int .i64 m] w fun e w' => e = .returned (.bool true) ∧ Below w.heap.size w w' := by
  go_enter Try.func14, Try.ntmps14
  go_wp2_with fail
  refine (awake_calls _).mono ?_
  rintro e w1 ⟨rfl, hm1⟩
  go_wp2_with (first | (go_at_call 42; refine (Num_nil _).mono ?_; rintro e w' ⟨rfl, rfl⟩) | (go_at_call 43; refine (Int_nil _).mono ?_; rintro e w' ⟨rfl, rfl⟩) | (go_at_call 44; refine (Real_nil _).mono ?_; rintro e w' ⟨rfl, rfl⟩) | (go_at_call 45; refine (Text_nil _ _).mono ?_; rintro e w' ⟨rfl, rfl⟩) | (go_at_call 46; refine (Flag_nil _).mono ?_; rintro e w' ⟨rfl, rfl⟩) | (go_at_call 47; refine (Rest_nil _).mono ?_; rintro e w' ⟨rfl, rfl⟩) | (go_at_call 48; refine (Err_nil _).mono ?_; rintro e w' ⟨rfl, rfl⟩) | (go_at_call 49; refine (End_nil _).mono ?_; rintro e w' ⟨rfl, rfl⟩))
  go_ret
  exact ⟨ret_bool (by simp), hm1.below0⟩
end Go.Proofs.Ytobifcffgkagbaa.Bits
