/-
  No cell of these rows narrows 'for every input' (looked for: loops, veiled, ifaces, maps, wideKeys, modest, calm, conditions, laid).
  DERIVED. THE GIVEN ROWS OF THIS SEAT. 12 by the template 'for every input the law returns true; each argument reads behind the call as it read before'; 0 by the template 'total and deterministic' (their statements: YtobifcffgkagbaaTotals.lean).
  GIVEN WITH THE SEED: the statements are not yours to turn. If you find one false, say at which input.
  Laid BY PROGRAM, IN A SANDBOX (cutbox-rows.mjs): the forced cells as the released guide's own fill.sh prints them over the translation 198d22b1fa2b8c7b… (all of the seat's roots in one cut). By AI agents, Wed Nov 11 2026. No macro, syntax, notation, axiom, sorry.
-/
import Derived.Test.YtobifcffgkagbaaChecked
import GoSem.Claim
import GoSem.ClaimJoined
import GoSem.ClaimMapViews
import Derived.JoinedTies
import Derived.KernelRfl
namespace Go.Proofs.Ytobifcffgkagbaa
/- THE CELL 'sum', in the pinned program and in every row, IS THE sha256 OF THE DUMP (.gsa) THAT YtobifcffgkagbaaProg.lean LOADS. Nothing in Lean hashes anything: it is a label: what it is worth is what the hold of that sum in a sandbox is worth. -/
noncomputable def Try.pinned : Pinned := { name := "ytobifcffgkagbaa", sum := "198d22b1fa2b8c7bd2dd5d10e3be66bb602888a626efb28ac7cb9402d537191f", checked := Try.checked }
namespace Rows
def none {H : Type} : Left H := { results := [], args := [] }

/-- 'auspicelaw03.RealHolds': WHATEVER THE INPUT: true; the input reads as it did. -/
def realHoldsSpec : ChangeSpec := { name := "realHolds", fn := fun _ => fun
  | [d1, d2, d3] => { results := [.lit (.bool true)], args := [d1, d2, d3] }
  | _ => none }
def realHoldsRow : OpenClaim := { program := "ytobifcffgkagbaa", sum := "198d22b1fa2b8c7bd2dd5d10e3be66bb602888a626efb28ac7cb9402d537191f", func := "auspice/auspicelaw03.RealHolds", spec := "realHolds", inPlace := ["math.Float64bits", "math.Float64frombits"], apart := false }
def RealHoldsSaid : Prop := realHoldsRow.holds Try.pinned (OpenSpec.ofChange realHoldsSpec)

/-- ITS FALSE NEIGHBOUR: 'it returns false'. Refute it at one input. -/
def realHoldsWrong : ChangeSpec := { name := "realHolds", fn := fun _ => fun
  | [d1, d2, d3] => { results := [.lit (.bool false)], args := [d1, d2, d3] }
  | _ => none }
def RealHoldsWrongFalsely : Prop := realHoldsRow.holds Try.pinned (OpenSpec.ofChange realHoldsWrong)

/-- 'auspicelaw03.RealWholes': WHATEVER THE INPUT: true; the input reads as it did. -/
def realWholesSpec : ChangeSpec := { name := "realWholes", fn := fun _ => fun
  | [d] => { results := [.lit (.bool true)], args := [d] }
  | _ => none }
def realWholesRow : OpenClaim := { program := "ytobifcffgkagbaa", sum := "198d22b1fa2b8c7bd2dd5d10e3be66bb602888a626efb28ac7cb9402d537191f", func := "auspice/auspicelaw03.RealWholes", spec := "realWholes", inPlace := ["math.Float64bits", "math.Float64frombits"], apart := false }
def RealWholesSaid : Prop := realWholesRow.holds Try.pinned (OpenSpec.ofChange realWholesSpec)

/-- ITS FALSE NEIGHBOUR: 'it returns false'. Refute it at one input. -/
def realWholesWrong : ChangeSpec := { name := "realWholes", fn := fun _ => fun
  | [d] => { results := [.lit (.bool false)], args := [d] }
  | _ => none }
def RealWholesWrongFalsely : Prop := realWholesRow.holds Try.pinned (OpenSpec.ofChange realWholesWrong)

/-- 'auspicelaw03.RealParts': WHATEVER THE INPUT: true; the input reads as it did. -/
def realPartsSpec : ChangeSpec := { name := "realParts", fn := fun _ => fun
  | [d1, d2] => { results := [.lit (.bool true)], args := [d1, d2] }
  | _ => none }
def realPartsRow : OpenClaim := { program := "ytobifcffgkagbaa", sum := "198d22b1fa2b8c7bd2dd5d10e3be66bb602888a626efb28ac7cb9402d537191f", func := "auspice/auspicelaw03.RealParts", spec := "realParts", inPlace := ["math.Float64bits", "math.Float64frombits"], apart := false }
def RealPartsSaid : Prop := realPartsRow.holds Try.pinned (OpenSpec.ofChange realPartsSpec)

/-- ITS FALSE NEIGHBOUR: 'it returns false'. Refute it at one input. -/
def realPartsWrong : ChangeSpec := { name := "realParts", fn := fun _ => fun
  | [d1, d2] => { results := [.lit (.bool false)], args := [d1, d2] }
  | _ => none }
def RealPartsWrongFalsely : Prop := realPartsRow.holds Try.pinned (OpenSpec.ofChange realPartsWrong)

/-- 'auspicelaw03.RealSigns': WHATEVER THE INPUT: true; the input reads as it did. -/
def realSignsSpec : ChangeSpec := { name := "realSigns", fn := fun _ => fun
  | [d1, d2] => { results := [.lit (.bool true)], args := [d1, d2] }
  | _ => none }
def realSignsRow : OpenClaim := { program := "ytobifcffgkagbaa", sum := "198d22b1fa2b8c7bd2dd5d10e3be66bb602888a626efb28ac7cb9402d537191f", func := "auspice/auspicelaw03.RealSigns", spec := "realSigns", inPlace := ["math.Float64bits", "math.Float64frombits"], apart := false }
def RealSignsSaid : Prop := realSignsRow.holds Try.pinned (OpenSpec.ofChange realSignsSpec)

/-- ITS FALSE NEIGHBOUR: 'it returns false'. Refute it at one input. -/
def realSignsWrong : ChangeSpec := { name := "realSigns", fn := fun _ => fun
  | [d1, d2] => { results := [.lit (.bool false)], args := [d1, d2] }
  | _ => none }
def RealSignsWrongFalsely : Prop := realSignsRow.holds Try.pinned (OpenSpec.ofChange realSignsWrong)

/-- 'auspicelaw03.RealRanks': WHATEVER THE INPUT: true; the input reads as it did. -/
def realRanksSpec : ChangeSpec := { name := "realRanks", fn := fun _ => fun
  | [d1, d2] => { results := [.lit (.bool true)], args := [d1, d2] }
  | _ => none }
def realRanksRow : OpenClaim := { program := "ytobifcffgkagbaa", sum := "198d22b1fa2b8c7bd2dd5d10e3be66bb602888a626efb28ac7cb9402d537191f", func := "auspice/auspicelaw03.RealRanks", spec := "realRanks", inPlace := ["math.Float64bits", "math.Float64frombits"], apart := false }
def RealRanksSaid : Prop := realRanksRow.holds Try.pinned (OpenSpec.ofChange realRanksSpec)

/-- ITS FALSE NEIGHBOUR: 'it returns false'. Refute it at one input. -/
def realRanksWrong : ChangeSpec := { name := "realRanks", fn := fun _ => fun
  | [d1, d2] => { results := [.lit (.bool false)], args := [d1, d2] }
  | _ => none }
def RealRanksWrongFalsely : Prop := realRanksRow.holds Try.pinned (OpenSpec.ofChange realRanksWrong)

/-- 'auspicelaw03.RealOrder': WHATEVER THE INPUT: true; the input reads as it did. -/
def realOrderSpec : ChangeSpec := { name := "realOrder", fn := fun _ => fun
  | [d1, d2, d3] => { results := [.lit (.bool true)], args := [d1, d2, d3] }
  | _ => none }
def realOrderRow : OpenClaim := { program := "ytobifcffgkagbaa", sum := "198d22b1fa2b8c7bd2dd5d10e3be66bb602888a626efb28ac7cb9402d537191f", func := "auspice/auspicelaw03.RealOrder", spec := "realOrder", inPlace := ["math.Float64bits", "math.Float64frombits"], apart := false }
def RealOrderSaid : Prop := realOrderRow.holds Try.pinned (OpenSpec.ofChange realOrderSpec)

/-- ITS FALSE NEIGHBOUR: 'it returns false'. Refute it at one input. -/
def realOrderWrong : ChangeSpec := { name := "realOrder", fn := fun _ => fun
  | [d1, d2, d3] => { results := [.lit (.bool false)], args := [d1, d2, d3] }
  | _ => none }
def RealOrderWrongFalsely : Prop := realOrderRow.holds Try.pinned (OpenSpec.ofChange realOrderWrong)

/-- 'auspicelaw03.RealEnds': WHATEVER THE INPUT: true; the input reads as it did. -/
def realEndsSpec : ChangeSpec := { name := "realEnds", fn := fun _ => fun
  | [d] => { results := [.lit (.bool true)], args := [d] }
  | _ => none }
def realEndsRow : OpenClaim := { program := "ytobifcffgkagbaa", sum := "198d22b1fa2b8c7bd2dd5d10e3be66bb602888a626efb28ac7cb9402d537191f", func := "auspice/auspicelaw03.RealEnds", spec := "realEnds", inPlace := ["math.Float64bits", "math.Float64frombits"], apart := false }
def RealEndsSaid : Prop := realEndsRow.holds Try.pinned (OpenSpec.ofChange realEndsSpec)

/-- ITS FALSE NEIGHBOUR: 'it returns false'. Refute it at one input. -/
def realEndsWrong : ChangeSpec := { name := "realEnds", fn := fun _ => fun
  | [d] => { results := [.lit (.bool false)], args := [d] }
  | _ => none }
def RealEndsWrongFalsely : Prop := realEndsRow.holds Try.pinned (OpenSpec.ofChange realEndsWrong)

/-- 'auspicelaw01.BitsNumbers': WHATEVER THE INPUT: true; the input reads as it did. -/
def bitsNumbersSpec : ChangeSpec := { name := "bitsNumbers", fn := fun _ => fun
  | [d1, d2] => { results := [.lit (.bool true)], args := [d1, d2] }
  | _ => none }
def bitsNumbersRow : OpenClaim := { program := "ytobifcffgkagbaa", sum := "198d22b1fa2b8c7bd2dd5d10e3be66bb602888a626efb28ac7cb9402d537191f", func := "auspice/auspicelaw01.BitsNumbers", spec := "bitsNumbers", apart := false }
def BitsNumbersSaid : Prop := bitsNumbersRow.holds Try.pinned (OpenSpec.ofChange bitsNumbersSpec)

/-- ITS FALSE NEIGHBOUR: 'it returns false'. Refute it at one input. -/
def bitsNumbersWrong : ChangeSpec := { name := "bitsNumbers", fn := fun _ => fun
  | [d1, d2] => { results := [.lit (.bool false)], args := [d1, d2] }
  | _ => none }
def BitsNumbersWrongFalsely : Prop := bitsNumbersRow.holds Try.pinned (OpenSpec.ofChange bitsNumbersWrong)

/-- 'auspicelaw01.BitsOrder': WHATEVER THE INPUT: true; the input reads as it did. -/
def bitsOrderSpec : ChangeSpec := { name := "bitsOrder", fn := fun _ => fun
  | [d1, d2, d3] => { results := [.lit (.bool true)], args := [d1, d2, d3] }
  | _ => none }
def bitsOrderRow : OpenClaim := { program := "ytobifcffgkagbaa", sum := "198d22b1fa2b8c7bd2dd5d10e3be66bb602888a626efb28ac7cb9402d537191f", func := "auspice/auspicelaw01.BitsOrder", spec := "bitsOrder", apart := false }
def BitsOrderSaid : Prop := bitsOrderRow.holds Try.pinned (OpenSpec.ofChange bitsOrderSpec)

/-- ITS FALSE NEIGHBOUR: 'it returns false'. Refute it at one input. -/
def bitsOrderWrong : ChangeSpec := { name := "bitsOrder", fn := fun _ => fun
  | [d1, d2, d3] => { results := [.lit (.bool false)], args := [d1, d2, d3] }
  | _ => none }
def BitsOrderWrongFalsely : Prop := bitsOrderRow.holds Try.pinned (OpenSpec.ofChange bitsOrderWrong)

/-- 'auspicelaw01.BitsTexts': WHATEVER THE INPUT: true; the input reads as it did. -/
def bitsTextsSpec : ChangeSpec := { name := "bitsTexts", fn := fun _ => fun
  | [d] => { results := [.lit (.bool true)], args := [d] }
  | _ => none }
def bitsTextsRow : OpenClaim := { program := "ytobifcffgkagbaa", sum := "198d22b1fa2b8c7bd2dd5d10e3be66bb602888a626efb28ac7cb9402d537191f", func := "auspice/auspicelaw01.BitsTexts", spec := "bitsTexts", apart := false }
def BitsTextsSaid : Prop := bitsTextsRow.holds Try.pinned (OpenSpec.ofChange bitsTextsSpec)

/-- ITS FALSE NEIGHBOUR: 'it returns false'. Refute it at one input. -/
def bitsTextsWrong : ChangeSpec := { name := "bitsTexts", fn := fun _ => fun
  | [d] => { results := [.lit (.bool false)], args := [d] }
  | _ => none }
def BitsTextsWrongFalsely : Prop := bitsTextsRow.holds Try.pinned (OpenSpec.ofChange bitsTextsWrong)

/-- 'auspicelaw01.BitsReals': WHATEVER THE INPUT: true; the input reads as it did. -/
def bitsRealsSpec : ChangeSpec := { name := "bitsReals", fn := fun _ => fun
  | [d1, d2] => { results := [.lit (.bool true)], args := [d1, d2] }
  | _ => none }
def bitsRealsRow : OpenClaim := { program := "ytobifcffgkagbaa", sum := "198d22b1fa2b8c7bd2dd5d10e3be66bb602888a626efb28ac7cb9402d537191f", func := "auspice/auspicelaw01.BitsReals", spec := "bitsReals", inPlace := ["math.Float64bits"], apart := false }
def BitsRealsSaid : Prop := bitsRealsRow.holds Try.pinned (OpenSpec.ofChange bitsRealsSpec)

/-- ITS FALSE NEIGHBOUR: 'it returns false'. Refute it at one input. -/
def bitsRealsWrong : ChangeSpec := { name := "bitsReals", fn := fun _ => fun
  | [d1, d2] => { results := [.lit (.bool false)], args := [d1, d2] }
  | _ => none }
def BitsRealsWrongFalsely : Prop := bitsRealsRow.holds Try.pinned (OpenSpec.ofChange bitsRealsWrong)

/-- 'auspicelaw01.BitsNil': WHATEVER THE INPUT: true; the input reads as it did. -/
def bitsNilSpec : ChangeSpec := { name := "bitsNil", fn := fun _ => fun
  | [d] => { results := [.lit (.bool true)], args := [d] }
  | _ => none }
def bitsNilRow : OpenClaim := { program := "ytobifcffgkagbaa", sum := "198d22b1fa2b8c7bd2dd5d10e3be66bb602888a626efb28ac7cb9402d537191f", func := "auspice/auspicelaw01.BitsNil", spec := "bitsNil", inPlace := ["math.Float64frombits"], apart := false }
def BitsNilSaid : Prop := bitsNilRow.holds Try.pinned (OpenSpec.ofChange bitsNilSpec)

/-- ITS FALSE NEIGHBOUR: 'it returns false'. Refute it at one input. -/
def bitsNilWrong : ChangeSpec := { name := "bitsNil", fn := fun _ => fun
  | [d] => { results := [.lit (.bool false)], args := [d] }
  | _ => none }
def BitsNilWrongFalsely : Prop := bitsNilRow.holds Try.pinned (OpenSpec.ofChange bitsNilWrong)

/- THE SECOND FORM. 'bulk': how many values and letters a reading holds, each counted each time it is reached (what is shared counts as often as it is met; a slice's spare places count too). A statement '..UptoSaid' is the law's where the arguments, and the package variables that the reading takes, are together of bulk at most 1048576: NARROWER than '..Said'. Prove '..Said' where nothing that the law and all that it calls make is longer than what came in: it says more and counts as full. Else prove '..UptoSaid'. A law counts once. -/
mutual
def uptoBulk {H : Type} : DataW H → Nat
  | .lit (.string bytes) => bytes.length + 1
  | .lit _ => 1
  | .nil => 1
  | .ptr d => uptoBulk d + 1
  | .slice elems spare => uptoBulkAll elems + uptoBulkAll spare + 1
  | .agg parts => uptoBulkAll parts + 1
  | .iface _ d => uptoBulk d + 1
  | .map entries => uptoBulkEntries entries + 1
  | .held _ => 1
def uptoBulkAll {H : Type} : List (DataW H) → Nat
  | [] => 0
  | d :: r => uptoBulk d + uptoBulkAll r
def uptoBulkEntries {H : Type} : List (Lit × DataW H) → Nat
  | [] => 0
  | x :: r => uptoBulkEntry x + uptoBulkEntries r
def uptoBulkEntry {H : Type} : Lit × DataW H → Nat
  | (.string bytes, d) => bytes.length + uptoBulk d + 1
  | (_, d) => uptoBulk d + 1
 end
def uptoSmall : (H : Type) → List (DataW H) → Bool := fun _ ds => decide (uptoBulkAll ds ≤ 1048576)
def OpenSpec.upto (s : _root_.Go.ChangeSpec) : _root_.Go.OpenSpec := { _root_.Go.OpenSpec.ofChange s with cond := some uptoSmall }

/-- 'auspicelaw03.RealHolds', WHERE WHAT IT READS IS OF BULK AT MOST 1048576: true; the input reads as it did. -/
def realHoldsUptoRow : OpenClaim := { program := "ytobifcffgkagbaa", sum := "198d22b1fa2b8c7bd2dd5d10e3be66bb602888a626efb28ac7cb9402d537191f", func := "auspice/auspicelaw03.RealHolds", spec := "realHolds", inPlace := ["math.Float64bits", "math.Float64frombits"], apart := false, narrowed := true }
def RealHoldsUptoSaid : Prop := realHoldsUptoRow.holds Try.pinned (OpenSpec.upto realHoldsSpec)

/-- 'auspicelaw03.RealWholes', WHERE WHAT IT READS IS OF BULK AT MOST 1048576: true; the input reads as it did. -/
def realWholesUptoRow : OpenClaim := { program := "ytobifcffgkagbaa", sum := "198d22b1fa2b8c7bd2dd5d10e3be66bb602888a626efb28ac7cb9402d537191f", func := "auspice/auspicelaw03.RealWholes", spec := "realWholes", inPlace := ["math.Float64bits", "math.Float64frombits"], apart := false, narrowed := true }
def RealWholesUptoSaid : Prop := realWholesUptoRow.holds Try.pinned (OpenSpec.upto realWholesSpec)

/-- 'auspicelaw03.RealParts', WHERE WHAT IT READS IS OF BULK AT MOST 1048576: true; the input reads as it did. -/
def realPartsUptoRow : OpenClaim := { program := "ytobifcffgkagbaa", sum := "198d22b1fa2b8c7bd2dd5d10e3be66bb602888a626efb28ac7cb9402d537191f", func := "auspice/auspicelaw03.RealParts", spec := "realParts", inPlace := ["math.Float64bits", "math.Float64frombits"], apart := false, narrowed := true }
def RealPartsUptoSaid : Prop := realPartsUptoRow.holds Try.pinned (OpenSpec.upto realPartsSpec)

/-- 'auspicelaw03.RealSigns', WHERE WHAT IT READS IS OF BULK AT MOST 1048576: true; the input reads as it did. -/
def realSignsUptoRow : OpenClaim := { program := "ytobifcffgkagbaa", sum := "198d22b1fa2b8c7bd2dd5d10e3be66bb602888a626efb28ac7cb9402d537191f", func := "auspice/auspicelaw03.RealSigns", spec := "realSigns", inPlace := ["math.Float64bits", "math.Float64frombits"], apart := false, narrowed := true }
def RealSignsUptoSaid : Prop := realSignsUptoRow.holds Try.pinned (OpenSpec.upto realSignsSpec)

/-- 'auspicelaw03.RealRanks', WHERE WHAT IT READS IS OF BULK AT MOST 1048576: true; the input reads as it did. -/
def realRanksUptoRow : OpenClaim := { program := "ytobifcffgkagbaa", sum := "198d22b1fa2b8c7bd2dd5d10e3be66bb602888a626efb28ac7cb9402d537191f", func := "auspice/auspicelaw03.RealRanks", spec := "realRanks", inPlace := ["math.Float64bits", "math.Float64frombits"], apart := false, narrowed := true }
def RealRanksUptoSaid : Prop := realRanksUptoRow.holds Try.pinned (OpenSpec.upto realRanksSpec)

/-- 'auspicelaw03.RealOrder', WHERE WHAT IT READS IS OF BULK AT MOST 1048576: true; the input reads as it did. -/
def realOrderUptoRow : OpenClaim := { program := "ytobifcffgkagbaa", sum := "198d22b1fa2b8c7bd2dd5d10e3be66bb602888a626efb28ac7cb9402d537191f", func := "auspice/auspicelaw03.RealOrder", spec := "realOrder", inPlace := ["math.Float64bits", "math.Float64frombits"], apart := false, narrowed := true }
def RealOrderUptoSaid : Prop := realOrderUptoRow.holds Try.pinned (OpenSpec.upto realOrderSpec)

/-- 'auspicelaw03.RealEnds', WHERE WHAT IT READS IS OF BULK AT MOST 1048576: true; the input reads as it did. -/
def realEndsUptoRow : OpenClaim := { program := "ytobifcffgkagbaa", sum := "198d22b1fa2b8c7bd2dd5d10e3be66bb602888a626efb28ac7cb9402d537191f", func := "auspice/auspicelaw03.RealEnds", spec := "realEnds", inPlace := ["math.Float64bits", "math.Float64frombits"], apart := false, narrowed := true }
def RealEndsUptoSaid : Prop := realEndsUptoRow.holds Try.pinned (OpenSpec.upto realEndsSpec)

/-- 'auspicelaw01.BitsNumbers', WHERE WHAT IT READS IS OF BULK AT MOST 1048576: true; the input reads as it did. -/
def bitsNumbersUptoRow : OpenClaim := { program := "ytobifcffgkagbaa", sum := "198d22b1fa2b8c7bd2dd5d10e3be66bb602888a626efb28ac7cb9402d537191f", func := "auspice/auspicelaw01.BitsNumbers", spec := "bitsNumbers", apart := false, narrowed := true }
def BitsNumbersUptoSaid : Prop := bitsNumbersUptoRow.holds Try.pinned (OpenSpec.upto bitsNumbersSpec)

/-- 'auspicelaw01.BitsOrder', WHERE WHAT IT READS IS OF BULK AT MOST 1048576: true; the input reads as it did. -/
def bitsOrderUptoRow : OpenClaim := { program := "ytobifcffgkagbaa", sum := "198d22b1fa2b8c7bd2dd5d10e3be66bb602888a626efb28ac7cb9402d537191f", func := "auspice/auspicelaw01.BitsOrder", spec := "bitsOrder", apart := false, narrowed := true }
def BitsOrderUptoSaid : Prop := bitsOrderUptoRow.holds Try.pinned (OpenSpec.upto bitsOrderSpec)

/-- 'auspicelaw01.BitsTexts', WHERE WHAT IT READS IS OF BULK AT MOST 1048576: true; the input reads as it did. -/
def bitsTextsUptoRow : OpenClaim := { program := "ytobifcffgkagbaa", sum := "198d22b1fa2b8c7bd2dd5d10e3be66bb602888a626efb28ac7cb9402d537191f", func := "auspice/auspicelaw01.BitsTexts", spec := "bitsTexts", apart := false, narrowed := true }
def BitsTextsUptoSaid : Prop := bitsTextsUptoRow.holds Try.pinned (OpenSpec.upto bitsTextsSpec)

/-- 'auspicelaw01.BitsReals', WHERE WHAT IT READS IS OF BULK AT MOST 1048576: true; the input reads as it did. -/
def bitsRealsUptoRow : OpenClaim := { program := "ytobifcffgkagbaa", sum := "198d22b1fa2b8c7bd2dd5d10e3be66bb602888a626efb28ac7cb9402d537191f", func := "auspice/auspicelaw01.BitsReals", spec := "bitsReals", inPlace := ["math.Float64bits"], apart := false, narrowed := true }
def BitsRealsUptoSaid : Prop := bitsRealsUptoRow.holds Try.pinned (OpenSpec.upto bitsRealsSpec)

/-- 'auspicelaw01.BitsNil', WHERE WHAT IT READS IS OF BULK AT MOST 1048576: true; the input reads as it did. -/
def bitsNilUptoRow : OpenClaim := { program := "ytobifcffgkagbaa", sum := "198d22b1fa2b8c7bd2dd5d10e3be66bb602888a626efb28ac7cb9402d537191f", func := "auspice/auspicelaw01.BitsNil", spec := "bitsNil", inPlace := ["math.Float64frombits"], apart := false, narrowed := true }
def BitsNilUptoSaid : Prop := bitsNilUptoRow.holds Try.pinned (OpenSpec.upto bitsNilSpec)

end Rows
end Go.Proofs.Ytobifcffgkagbaa
