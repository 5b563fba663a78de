/- The contracts of the reference's real numbers, and of a tape's. -/
import Derived.Test.YtceocpohdckkoaaBits7
namespace Go.Proofs.Ytceocpohdckkoaa.Bits
open Go.RowKit Mem
set_option linter.unusedSimpArgs false
set_option linter.unusedVariables false
set_option maxRecDepth 100000

def realR (s : ByteArray) (e : Int) : Nat × ByteArray × Int :=
  if e ≠ 0 then (0, s, e) else if s.size < 8 then (0, s, 5)
  else if Fl.nanB (Bt.val (Bt.bytesOf s 0 8) 0) = true ∧ Bt.val (Bt.bytesOf s 0 8) 0 ≠ 9221120237041090561 then (0, s, 3)
  else (Bt.val (Bt.bytesOf s 0 8) 0, s.extract 8 s.size, 0)
end Go.Proofs.Ytceocpohdckkoaa.Bits
