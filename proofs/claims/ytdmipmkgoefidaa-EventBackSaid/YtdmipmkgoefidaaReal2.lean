/- The contracts of the reference's comparison, and of the least and the most of some real numbers. -/
import Derived.Test.YtdmipmkgoefidaaReal
namespace Go.Proofs.Ytdmipmkgoefidaa
open Go.RowKit
set_option linter.unusedSimpArgs false
set_option linter.unusedVariables false

theorem int_beq (x y : Int) : (x == y) = decide (x = y) := by rw [Bool.eq_iff_iff, beq_iff_eq, decide_eq_true_iff]

end Go.Proofs.Ytdmipmkgoefidaa
