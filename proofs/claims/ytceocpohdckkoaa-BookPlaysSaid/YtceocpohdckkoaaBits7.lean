/- The contracts of real numbers as bytes. -/
import Derived.Test.YtceocpohdckkoaaBits6
import Derived.Test.YtceocpohdckkoaaFl
namespace Go.Proofs.Ytceocpohdckkoaa.Bits
open Go.RowKit Mem
set_option linter.unusedSimpArgs false
set_option linter.unusedVariables false
set_option maxRecDepth 100000

theorem self_ne (a : Nat) : (FloatKind.f64.format.order a a != some .eq) = Fl.nanB a := Fl.self_ne a
attribute [go_sem] self_ne
def canB (f : Nat) : Nat := if Fl.nanB f then 9221120237041090561 else f
def realS (f : Nat) : ByteArray := strOfNums (Bt.be 8 (canB f))

theorem canB_lt (f : Nat) (h : f < 18446744073709551616) : canB f < 18446744073709551616 := by unfold canB; split <;> omega

/-- The eight cells when k bytes are laid. -/
def arr8 (x k : Nat) : Array Value := (((Bt.be 8 x).take k ++ List.replicate (8 - k) (0 : Int)).map (Value.int .u8)).toArray
theorem arr8_zero (x : Nat) : arr8 x 0 = #[.int .u8 0, .int .u8 0, .int .u8 0, .int .u8 0, .int .u8 0, .int .u8 0, .int .u8 0, .int .u8 0] := rfl
theorem arr8_all (x : Nat) : arr8 x 8 = ((Bt.be 8 x).map (Value.int .u8)).toArray := rfl
theorem arr8_get (x k : Nat) (hk : k < 8) : (arr8 x k)[k]? = some (.int .u8 0) := by
  unfold arr8
  have hl : ((Bt.be 8 x).take k).length = k := by rw [List.length_take, Bt.be_length]; omega
  rw [List.getElem?_toArray, List.getElem?_map, List.getElem?_append_right (by omega), hl, Nat.sub_self, List.getElem?_replicate, if_pos (by omega)]
  rfl
theorem arr8_step (x k : Nat) (hk : k < 8) : (arr8 x k).setIfInBounds k (.int .u8 ((x / 256 ^ (7 - k) % 256 : Nat) : Int)) = arr8 x (k + 1) := by
  have hl : ((Bt.be 8 x).take k).length = k := by rw [List.length_take, Bt.be_length]; omega
  unfold arr8
  apply Array.ext'
  simp only [Array.toList_setIfInBounds]
  rw [← List.map_set, List.set_append_right _ _ (by omega), hl, Nat.sub_self, be_take_step 8 x k hk, show 8 - k = (8 - (k + 1)) + 1 by omega, List.replicate_succ]
  simp

theorem shr_cast (x k : Nat) (hk : k ≤ 7) : (x : Int) / 2 ^ (56 - 8 * k) = ((x / 256 ^ (7 - k) : Nat) : Int) := by
  rw [← pow_cast, show 56 - 8 * k = 8 * (7 - k) by omega]

end Go.Proofs.Ytceocpohdckkoaa.Bits
