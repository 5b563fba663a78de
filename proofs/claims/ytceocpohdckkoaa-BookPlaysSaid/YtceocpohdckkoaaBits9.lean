/- The contract of a tape's real number. -/
import Derived.Test.YtceocpohdckkoaaBits8
namespace Go.Proofs.Ytceocpohdckkoaa.Bits
open Go.RowKit Mem
set_option linter.unusedSimpArgs false
set_option linter.unusedVariables false
set_option maxRecDepth 100000

theorem val_bd0 (s : ByteArray) (k i : Nat) (hi : i ≤ k) (h : k ≤ s.size) : Bt.val ((Bt.bytesOf s 0 k).take i) 0 < 256 ^ i := by
  have h1 := Bt.val_lt ((Bt.bytesOf s 0 k).take i) 0 (fun x hx => Bt.bytesOf_bytes s 0 k x (List.mem_of_mem_take hx))
  have h2 : ((Bt.bytesOf s 0 k).take i).length = i := by rw [List.length_take, Bt.bytesOf_length s 0 k (by omega)]; omega
  rw [h2] at h1
  simpa using h1.1

end Go.Proofs.Ytceocpohdckkoaa.Bits
