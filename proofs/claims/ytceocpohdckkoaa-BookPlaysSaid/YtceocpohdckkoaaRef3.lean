/- The contracts of the reference tape's whole numbers, texts, real numbers and end. -/
import Derived.Test.YtceocpohdckkoaaRef2
import Derived.Test.YtceocpohdckkoaaHe
import Derived.Deep.DrawnRows
namespace Go.Proofs.Ytceocpohdckkoaa.Bits
open Go.RowKit Mem
set_option linter.unusedSimpArgs false
set_option linter.unusedVariables false
set_option maxRecDepth 100000
attribute [local go_sem ↓] Go.wp_at_zero Go.wp_at_succ
theorem rEnd_calls (s : ByteArray) (e0 : Int) (w : World) :
    Calls Try.prog 61 #[tapeV s e0] w fun e w' => e = .returned (.int .i64 (endE s e0)) ∧ Mod w w' [] := by
  have HU : Hid (endE s e0 = endE s e0) := Lib.hid rfl
  unfold endE at HU
  by_cases h0 : e0 = 0
  · subst h0
    by_cases hz : s.size = 0
    · have he := isEmpty_zero s hz
      go_enter Try.func61, Try.ntmps61
      go_wp2_with fail
      go_ret
      exact ⟨ret_int (by unfold endE; simp [hz]), (Mod.refl _ _).alloc _⟩
    · have he := isEmpty_size s (by omega)
      go_enter Try.func61, Try.ntmps61
      go_wp2_with fail
      go_ret
      exact ⟨ret_int (by unfold endE; simp [hz]), (Mod.refl _ _).alloc _⟩
  · have hne : (e0 == 0) = false := by rw [beq_eq_false_iff_ne]; exact h0
    go_enter Try.func61, Try.ntmps61
    go_wp2_with fail
    go_ret
    exact ⟨ret_int (by unfold endE; simp [h0]), (Mod.refl _ _).alloc _⟩
end Go.Proofs.Ytceocpohdckkoaa.Bits
