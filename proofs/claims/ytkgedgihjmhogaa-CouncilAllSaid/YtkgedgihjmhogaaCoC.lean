/- Masks of seven nodes: what is so of all pairs of them. -/
import Derived.Test.YtkgedgihjmhogaaCo
namespace Go.Proofs.Ytkgedgihjmhogaa.Co
set_option maxRecDepth 100000
theorem cnt_sub : ∀ a, a < 128 → ∀ b, b < 128 → cnt (a &&& b) ≤ cnt a := by decide +kernel
theorem cnt_split : ∀ a, a < 128 → ∀ b, b < 128 → cnt (a &&& b) + cnt (a &&& (127 ^^^ b)) = cnt a := by decide +kernel
theorem cnt_zero : ∀ a, a < 128 → (cnt a = 0 ↔ a = 0) := by decide +kernel
theorem cnt_disj : ∀ a, a < 128 → ∀ b, b < 128 → a &&& b = 0 → cnt a + cnt b = cnt (a ||| b) := by decide +kernel
theorem andNot_i64 : ∀ w, w < 128 → bits .andNot .i64 127 (w : Nat) = ((127 ^^^ w : Nat) : Int) := by decide +kernel
end Go.Proofs.Ytkgedgihjmhogaa.Co
