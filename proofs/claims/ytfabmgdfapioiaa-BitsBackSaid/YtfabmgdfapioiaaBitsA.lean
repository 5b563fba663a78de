/- The contract of chapter 1's example. -/
import Derived.Test.YtfabmgdfapioiaaBits9
namespace Go.Proofs.Ytfabmgdfapioiaa.Bits
open Go.RowKit Mem
set_option linter.unusedSimpArgs false
set_option linter.unusedVariables false
set_option maxRecDepth 100000

theorem awake_calls (w : World) : Calls Try.prog 6 #[] w fun e w' => e = .returned (.bool true) ∧ Mod w w' [] := by
  have n1 := fun w => num_calls 247 (by decide) w
  rw [show Bt.numS 247 = ⟨#[247]⟩ by decide +kernel] at n1
  have n2 := fun w => num_calls 256 (by decide) w
  rw [show Bt.numS 256 = ⟨#[249, 1, 0]⟩ by decide +kernel] at n2
  have n3 := fun w => int_calls (-1) (by decide) (by decide) w
  rw [show Bt.numS (fold (-1)) = ⟨#[1]⟩ by decide +kernel] at n3
  have n4 := fun g w hb => Text_calls g ⟨#[2, 97, 98]⟩ 0 9 (by decide) (by decide) w (by decide) hb
  rw [show textR ⟨#[2, 97, 98]⟩ 0 9 = (⟨#[97, 98]⟩, ⟨#[]⟩, 0) by decide +kernel] at n4
  have n5 := fun g w hb => End_calls g ⟨#[]⟩ 0 w hb
  rw [show endE ⟨#[]⟩ 0 = 0 by decide +kernel] at n5
  have N1 := Lib.hid n1
  have N2 := Lib.hid n2
  have N3 := Lib.hid n3
  have N4 := Lib.hid n4
  have N5 := Lib.hid n5
  clear n1 n2 n3 n4 n5
  go_enter Try.func6, Try.ntmps6
  go_wp2_with fail
  refine (at_calls _ _).mono ?_
  rintro e w1 ⟨rfl, hm1, hb1⟩
  go_wp2_with fail
  refine (N1.out _).mono ?_
  rintro e w2 ⟨rfl, hm2⟩
  go_wp2_with fail
  refine (N2.out _).mono ?_
  rintro e w3 ⟨rfl, hm3⟩
  go_wp2_with fail
  refine (N3.out _).mono ?_
  rintro e w4 ⟨rfl, hm4⟩
  have hm14 := (hm2.trans0 hm3).trans0 hm4
  have hb4 : TapeAt w4 w.heap.size ⟨#[2, 97, 98]⟩ 0 := Blk.mod hb1 hm14 (by simp)
  go_wp2_with fail
  refine (N4.out _ _ hb4).mono ?_
  rintro e w5 ⟨rfl, hm5, hb5⟩
  go_wp2_with fail
  refine (N5.out _ _ hb5).mono ?_
  rintro e w6 ⟨rfl, rfl⟩
  go_wp2_with fail
  go_ret
  exact ⟨rfl, (hm1.trans0 hm14).trans hm5 (by simp)⟩

end Go.Proofs.Ytfabmgdfapioiaa.Bits
