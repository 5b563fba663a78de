/- The contracts of a tape's whole numbers, texts and flags. -/
import Derived.Test.YtceocpohdckkoaaBits5
namespace Go.Proofs.Ytceocpohdckkoaa.Bits
open Go.RowKit Mem
set_option linter.unusedSimpArgs false
set_option linter.unusedVariables false
set_option maxRecDepth 100000

def unfoldI (n : Nat) : Int := if n % 2 = 0 then ((n / 2 : Nat) : Int) else -((n / 2 : Nat) : Int) - 1

theorem xor_i64 (x : Nat) (hx : x < 9223372036854775808) : bits .xor .i64 (x : Int) 0 = x ∧ bits .xor .i64 (x : Int) (-1) = -(x : Int) - 1 := by
  have h1 : (BitVec.ofInt 64 (x : Int)).toNat = x := by
    rw [BitVec.ofInt_natCast, BitVec.toNat_ofNat]; exact Nat.mod_eq_of_lt (by omega)
  constructor
  · show IntKind.i64.wrap ((BitVec.ofInt 64 (x : Int) ^^^ BitVec.ofInt 64 0).toNat : Int) = _
    rw [BitVec.toNat_xor, h1, show (BitVec.ofInt 64 0).toNat = 0 by decide, Nat.xor_zero]
    exact IntWalk.i64_in _ (by omega)
  · show IntKind.i64.wrap ((BitVec.ofInt 64 (x : Int) ^^^ BitVec.ofInt 64 (-1)).toNat : Int) = _
    have e : BitVec.ofInt 64 (-1) = BitVec.allOnes 64 := by decide
    rw [e, BitVec.xor_allOnes, BitVec.toNat_not, h1, IntKind.wrap_i64]
    have := hx
    omega

def textR (s : ByteArray) (e : Int) (most : Int) : ByteArray × ByteArray × Int :=
  if e ≠ 0 then (⟨#[]⟩, s, e) else
  if (Bt.numD s).2.2 ≠ 0 then (⟨#[]⟩, s, (Bt.numD s).2.2) else
  if max most 0 < (Bt.numD s).1 then (⟨#[]⟩, s, 2) else
  if s.size - (Bt.numD s).2.1 < (Bt.numD s).1 then (⟨#[]⟩, s, 5) else
  (s.extract (Bt.numD s).2.1 ((Bt.numD s).2.1 + (Bt.numD s).1), s.extract ((Bt.numD s).2.1 + (Bt.numD s).1) s.size, 0)

theorem textR0 (s : ByteArray) (most : Int) : textR s 0 most =
  if (Bt.numD s).2.2 ≠ 0 then (⟨#[]⟩, s, (Bt.numD s).2.2) else
  if max most 0 < (Bt.numD s).1 then (⟨#[]⟩, s, 2) else
  if s.size - (Bt.numD s).2.1 < (Bt.numD s).1 then (⟨#[]⟩, s, 5) else
  (s.extract (Bt.numD s).2.1 ((Bt.numD s).2.1 + (Bt.numD s).1), s.extract ((Bt.numD s).2.1 + (Bt.numD s).1) s.size, 0) := by
  unfold textR; rw [if_neg (by simp)]

def flagR (s : ByteArray) (e : Int) : Bool × ByteArray × Int :=
  if e ≠ 0 then (false, s, e) else if s.size = 0 then (false, s, 5) else if 1 < Bt.byt s 0 then (false, s, 3) else (decide (Bt.byt s 0 = 1), s.extract 1 s.size, 0)

end Go.Proofs.Ytceocpohdckkoaa.Bits
