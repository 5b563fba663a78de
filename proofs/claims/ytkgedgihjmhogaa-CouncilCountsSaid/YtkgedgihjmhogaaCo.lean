/- Masks of seven nodes: plain facts. -/
import Derived.Laws.Bits64
import Derived.IntWalk
namespace Go.Proofs.Ytkgedgihjmhogaa.Co
set_option linter.unusedSimpArgs false
set_option linter.unusedVariables false

def kn (m : Int) : Nat := if 0 ≤ m ∧ m ≤ 127 then m.toNat else 0
def hb (k i : Nat) : Bool := k / 2 ^ i % 2 == 1
def hasI (m n : Int) : Bool := decide (0 ≤ n ∧ n < 7) && hb (kn m) n.toNat
def nodesL (k : Nat) : List Nat := (List.range 7).filter (hb k)
def cnt (k : Nat) : Nat := (nodesL k).length
def enoughB (m w : Int) : Bool := decide (cnt (kn m) / 2 < cnt (kn m &&& kn w))
def nearK (a b : Nat) : Bool := a != 0 && b != 0 && (a &&& b == a || a &&& b == b) && decide (cnt (a ^^^ b) ≤ 1)
def nearB (a b : Int) : Bool := nearK (kn a) (kn b)

theorem kn_lt (m : Int) : kn m < 128 := by unfold kn; split <;> omega
theorem and_lt (a b : Nat) (h : a < 128) : a &&& b < 128 := Nat.lt_of_le_of_lt Nat.and_le_left h
theorem xor_lt (a b : Nat) (h : a < 128) (hb : b < 128) : a ^^^ b < 128 := Nat.xor_lt_two_pow (n := 7) h hb
theorem or_lt (a b : Nat) (h : a < 128) (hb : b < 128) : a ||| b < 128 := Nat.or_lt_two_pow (n := 7) h hb
theorem kn_nat (k : Nat) (h : k < 128) : kn (k : Int) = k := by unfold kn; rw [if_pos (by omega)]; omega
theorem cnt_le (k : Nat) : cnt k ≤ 7 := by
  unfold cnt nodesL
  exact Nat.le_trans (List.length_filter_le _ _) (by simp)

theorem ofInt64 (x : Nat) (hx : x < 9223372036854775808) : (BitVec.ofInt 64 (x : Int)).toNat = x := by
  rw [BitVec.ofInt_natCast, BitVec.toNat_ofNat]; exact Nat.mod_eq_of_lt (by omega)
theorem and_i64 (a b : Nat) (ha : a < 9223372036854775808) (hb : b < 9223372036854775808) : bits .and .i64 (a : Int) (b : Int) = ((a &&& b : Nat) : Int) := by
  show IntKind.i64.wrap ((BitVec.ofInt 64 (a : Int) &&& BitVec.ofInt 64 (b : Int)).toNat : Int) = _
  rw [BitVec.toNat_and, ofInt64 a ha, ofInt64 b hb]
  have : a &&& b ≤ a := Nat.and_le_left
  exact IntWalk.i64_in _ (by omega)
theorem xor_i64 (a b : Nat) (ha : a < 128) (hb : b < 128) : bits .xor .i64 (a : Int) (b : Int) = ((a ^^^ b : Nat) : Int) := by
  show IntKind.i64.wrap ((BitVec.ofInt 64 (a : Int) ^^^ BitVec.ofInt 64 (b : Int)).toNat : Int) = _
  rw [BitVec.toNat_xor, ofInt64 a (by omega), ofInt64 b (by omega)]
  have := xor_lt a b ha hb
  exact IntWalk.i64_in _ (by omega)
theorem or_i64 (a b : Nat) (ha : a < 128) (hb : b < 128) : bits .or .i64 (a : Int) (b : Int) = ((a ||| b : Nat) : Int) := by
  show IntKind.i64.wrap ((BitVec.ofInt 64 (a : Int) ||| BitVec.ofInt 64 (b : Int)).toNat : Int) = _
  rw [BitVec.toNat_or, ofInt64 a (by omega), ofInt64 b (by omega)]
  have := or_lt a b ha hb
  exact IntWalk.i64_in _ (by omega)

/-- The nodes below j. -/
def nodesTo (k j : Nat) : List Nat := (List.range j).filter (hb k)
theorem nodesTo_step (k j : Nat) : nodesTo k (j + 1) = if hb k j then nodesTo k j ++ [j] else nodesTo k j := by
  unfold nodesTo
  rw [List.range_succ, List.filter_append]
  by_cases h : hb k j <;> simp [h]
theorem nodesTo_len (k j : Nat) : (nodesTo k j).length ≤ j := by
  unfold nodesTo
  exact Nat.le_trans (List.length_filter_le _ _) (by simp)
theorem nodesTo_all (k : Nat) : nodesTo k 7 = nodesL k := rfl

theorem hb_testBit (k i : Nat) : hb k i = k.testBit i := by
  unfold hb
  rw [Nat.testBit_eq_decide_div_mod_eq, Bool.eq_iff_iff, beq_iff_eq, decide_eq_true_iff]
theorem hb_and (a b i : Nat) : hb (a &&& b) i = (hb a i && hb b i) := by rw [hb_testBit, hb_testBit, hb_testBit, Nat.testBit_and]
theorem hb_or (a b i : Nat) : hb (a ||| b) i = (hb a i || hb b i) := by rw [hb_testBit, hb_testBit, hb_testBit, Nat.testBit_or]
theorem hb_zero (i : Nat) : hb 0 i = false := by rw [hb_testBit, Nat.zero_testBit]

/-- How many below j are in one and not in the other one. -/
def moreTo (a b j : Nat) : Nat := ((List.range j).filter fun i => hb a i && !hb b i).length
theorem moreTo_step (a b j : Nat) : moreTo a b (j + 1) = if (hb a j && !hb b j) then moreTo a b j + 1 else moreTo a b j := by
  unfold moreTo
  rw [List.range_succ, List.filter_append]
  by_cases h : (hb a j && !hb b j) = true <;> simp [h]
theorem moreTo_le (a b j : Nat) : moreTo a b j ≤ j := by
  unfold moreTo
  exact Nat.le_trans (List.length_filter_le _ _) (by simp)
def cntTo (k j : Nat) : Nat := (nodesTo k j).length
theorem cntTo_step (k j : Nat) : cntTo k (j + 1) = if hb k j then cntTo k j + 1 else cntTo k j := by
  unfold cntTo
  rw [nodesTo_step]
  split <;> simp
theorem cntTo_le (k j : Nat) : cntTo k j ≤ j := nodesTo_len k j
theorem cntTo_all (k : Nat) : cntTo k 7 = cnt k := rfl

end Go.Proofs.Ytkgedgihjmhogaa.Co
