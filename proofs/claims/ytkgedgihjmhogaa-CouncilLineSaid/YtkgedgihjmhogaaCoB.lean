/- Masks of seven nodes: what is so of all of them, looked at one by one. -/
import Derived.Test.YtkgedgihjmhogaaCo
namespace Go.Proofs.Ytkgedgihjmhogaa.Co
set_option maxRecDepth 100000 in
theorem near_same : ∀ a, a < 128 → ∀ b, b < 128 → (decide (0 < cnt a) && decide (0 < cnt b) && decide (moreTo a b 7 + moreTo b a 7 ≤ 1)) = nearK a b := by
  decide +kernel
end Go.Proofs.Ytkgedgihjmhogaa.Co
