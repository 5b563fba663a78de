/-
  No cell of these rows narrows 'for every input' (looked for: loops, veiled, ifaces, maps, wideKeys, modest, calm, conditions, laid).
  DERIVED. THE GIVEN ROWS OF THIS SEAT. 7 by the template 'for every input the law returns true; each argument reads behind the call as it read before'; 0 by the template 'total and deterministic' (their statements: YtdmipmkgoefidaaTotals.lean).
  GIVEN WITH THE SEED: the statements are not yours to turn. If you find one false, say at which input.
  Laid BY PROGRAM, IN A SANDBOX (cutbox-rows.mjs): the forced cells as the released guide's own fill.sh prints them over the translation d10bcc505feaa181… (all of the seat's roots in one cut). By AI agents, Wed Nov 11 2026. No macro, syntax, notation, axiom, sorry.
-/
import Derived.Test.YtdmipmkgoefidaaChecked
import GoSem.Claim
import GoSem.ClaimJoined
import GoSem.ClaimMapViews
import Derived.JoinedTies
import Derived.KernelRfl
namespace Go.Proofs.Ytdmipmkgoefidaa
/- THE CELL 'sum', in the pinned program and in every row, IS THE sha256 OF THE DUMP (.gsa) THAT YtdmipmkgoefidaaProg.lean LOADS. Nothing in Lean hashes anything: it is a label: what it is worth is what the hold of that sum in a sandbox is worth. -/
noncomputable def Try.pinned : Pinned := { name := "ytdmipmkgoefidaa", sum := "d10bcc505feaa1812c3ae5493fbe36db48b5392a833f2b72d645b1117eed2189", checked := Try.checked }
namespace Rows
def none {H : Type} : Left H := { results := [], args := [] }

/-- 'auspicelaw08.EventChecks': WHATEVER THE INPUT: true; the input reads as it did. -/
def eventChecksSpec : ChangeSpec := { name := "eventChecks", fn := fun _ => fun
  | [d1, d2] => { results := [.lit (.bool true)], args := [d1, d2] }
  | _ => none }
def eventChecksRow : OpenClaim := { program := "ytdmipmkgoefidaa", sum := "d10bcc505feaa1812c3ae5493fbe36db48b5392a833f2b72d645b1117eed2189", func := "auspice/auspicelaw08.EventChecks", spec := "eventChecks", inPlace := ["math.Float64bits", "math.archTrunc", "math.Float64frombits"], apart := false }
def EventChecksSaid : Prop := eventChecksRow.holds Try.pinned (OpenSpec.ofChange eventChecksSpec)

/-- ITS FALSE NEIGHBOUR: 'it returns false'. Refute it at one input. -/
def eventChecksWrong : ChangeSpec := { name := "eventChecks", fn := fun _ => fun
  | [d1, d2] => { results := [.lit (.bool false)], args := [d1, d2] }
  | _ => none }
def EventChecksWrongFalsely : Prop := eventChecksRow.holds Try.pinned (OpenSpec.ofChange eventChecksWrong)

/-- 'auspicelaw08.EventTexts': WHATEVER THE INPUT: true; the input reads as it did. -/
def eventTextsSpec : ChangeSpec := { name := "eventTexts", fn := fun _ => fun
  | [d] => { results := [.lit (.bool true)], args := [d] }
  | _ => none }
def eventTextsRow : OpenClaim := { program := "ytdmipmkgoefidaa", sum := "d10bcc505feaa1812c3ae5493fbe36db48b5392a833f2b72d645b1117eed2189", func := "auspice/auspicelaw08.EventTexts", spec := "eventTexts", inPlace := ["math.Float64bits", "math.archTrunc", "math.Float64frombits"], apart := false }
def EventTextsSaid : Prop := eventTextsRow.holds Try.pinned (OpenSpec.ofChange eventTextsSpec)

/-- ITS FALSE NEIGHBOUR: 'it returns false'. Refute it at one input. -/
def eventTextsWrong : ChangeSpec := { name := "eventTexts", fn := fun _ => fun
  | [d] => { results := [.lit (.bool false)], args := [d] }
  | _ => none }
def EventTextsWrongFalsely : Prop := eventTextsRow.holds Try.pinned (OpenSpec.ofChange eventTextsWrong)

/-- 'auspicelaw08.EventHolds': WHATEVER THE INPUT: true; the input reads as it did. -/
def eventHoldsSpec : ChangeSpec := { name := "eventHolds", fn := fun _ => fun
  | [d1, d2, d3] => { results := [.lit (.bool true)], args := [d1, d2, d3] }
  | _ => none }
def eventHoldsRow : OpenClaim := { program := "ytdmipmkgoefidaa", sum := "d10bcc505feaa1812c3ae5493fbe36db48b5392a833f2b72d645b1117eed2189", func := "auspice/auspicelaw08.EventHolds", spec := "eventHolds", inPlace := ["math.Float64bits", "math.archTrunc", "math.Float64frombits"], apart := false }
def EventHoldsSaid : Prop := eventHoldsRow.holds Try.pinned (OpenSpec.ofChange eventHoldsSpec)

/-- ITS FALSE NEIGHBOUR: 'it returns false'. Refute it at one input. -/
def eventHoldsWrong : ChangeSpec := { name := "eventHolds", fn := fun _ => fun
  | [d1, d2, d3] => { results := [.lit (.bool false)], args := [d1, d2, d3] }
  | _ => none }
def EventHoldsWrongFalsely : Prop := eventHoldsRow.holds Try.pinned (OpenSpec.ofChange eventHoldsWrong)

/-- 'auspicelaw08.EventOrder': WHATEVER THE INPUT: true; the input reads as it did. -/
def eventOrderSpec : ChangeSpec := { name := "eventOrder", fn := fun _ => fun
  | [d1, d2, d3] => { results := [.lit (.bool true)], args := [d1, d2, d3] }
  | _ => none }
def eventOrderRow : OpenClaim := { program := "ytdmipmkgoefidaa", sum := "d10bcc505feaa1812c3ae5493fbe36db48b5392a833f2b72d645b1117eed2189", func := "auspice/auspicelaw08.EventOrder", spec := "eventOrder", inPlace := ["math.archTrunc", "math.Float64bits", "math.Float64frombits"], apart := false }
def EventOrderSaid : Prop := eventOrderRow.holds Try.pinned (OpenSpec.ofChange eventOrderSpec)

/-- ITS FALSE NEIGHBOUR: 'it returns false'. Refute it at one input. -/
def eventOrderWrong : ChangeSpec := { name := "eventOrder", fn := fun _ => fun
  | [d1, d2, d3] => { results := [.lit (.bool false)], args := [d1, d2, d3] }
  | _ => none }
def EventOrderWrongFalsely : Prop := eventOrderRow.holds Try.pinned (OpenSpec.ofChange eventOrderWrong)

/-- 'auspicelaw08.EventGets': WHATEVER THE INPUT: true; the input reads as it did. -/
def eventGetsSpec : ChangeSpec := { name := "eventGets", fn := fun _ => fun
  | [d1, d2] => { results := [.lit (.bool true)], args := [d1, d2] }
  | _ => none }
def eventGetsRow : OpenClaim := { program := "ytdmipmkgoefidaa", sum := "d10bcc505feaa1812c3ae5493fbe36db48b5392a833f2b72d645b1117eed2189", func := "auspice/auspicelaw08.EventGets", spec := "eventGets", inPlace := ["math.Float64bits", "math.archTrunc", "math.Float64frombits"], apart := false }
def EventGetsSaid : Prop := eventGetsRow.holds Try.pinned (OpenSpec.ofChange eventGetsSpec)

/-- ITS FALSE NEIGHBOUR: 'it returns false'. Refute it at one input. -/
def eventGetsWrong : ChangeSpec := { name := "eventGets", fn := fun _ => fun
  | [d1, d2] => { results := [.lit (.bool false)], args := [d1, d2] }
  | _ => none }
def EventGetsWrongFalsely : Prop := eventGetsRow.holds Try.pinned (OpenSpec.ofChange eventGetsWrong)

/-- 'auspicelaw08.EventReads': WHATEVER THE INPUT: true; the input reads as it did. -/
def eventReadsSpec : ChangeSpec := { name := "eventReads", fn := fun _ => fun
  | [d] => { results := [.lit (.bool true)], args := [d] }
  | _ => none }
def eventReadsRow : OpenClaim := { program := "ytdmipmkgoefidaa", sum := "d10bcc505feaa1812c3ae5493fbe36db48b5392a833f2b72d645b1117eed2189", func := "auspice/auspicelaw08.EventReads", spec := "eventReads", inPlace := ["math.Float64bits", "math.archTrunc", "math.Float64frombits"], apart := false }
def EventReadsSaid : Prop := eventReadsRow.holds Try.pinned (OpenSpec.ofChange eventReadsSpec)

/-- ITS FALSE NEIGHBOUR: 'it returns false'. Refute it at one input. -/
def eventReadsWrong : ChangeSpec := { name := "eventReads", fn := fun _ => fun
  | [d] => { results := [.lit (.bool false)], args := [d] }
  | _ => none }
def EventReadsWrongFalsely : Prop := eventReadsRow.holds Try.pinned (OpenSpec.ofChange eventReadsWrong)

/-- 'auspicelaw08.EventBack': WHATEVER THE INPUT: true; the input reads as it did. -/
def eventBackSpec : ChangeSpec := { name := "eventBack", fn := fun _ => fun
  | [d1, d2] => { results := [.lit (.bool true)], args := [d1, d2] }
  | _ => none }
def eventBackRow : OpenClaim := { program := "ytdmipmkgoefidaa", sum := "d10bcc505feaa1812c3ae5493fbe36db48b5392a833f2b72d645b1117eed2189", func := "auspice/auspicelaw08.EventBack", spec := "eventBack", inPlace := ["math.Float64bits", "math.archTrunc", "math.Float64frombits"], apart := false }
def EventBackSaid : Prop := eventBackRow.holds Try.pinned (OpenSpec.ofChange eventBackSpec)

/-- ITS FALSE NEIGHBOUR: 'it returns false'. Refute it at one input. -/
def eventBackWrong : ChangeSpec := { name := "eventBack", fn := fun _ => fun
  | [d1, d2] => { results := [.lit (.bool false)], args := [d1, d2] }
  | _ => none }
def EventBackWrongFalsely : Prop := eventBackRow.holds Try.pinned (OpenSpec.ofChange eventBackWrong)

/- THE SECOND FORM. 'bulk': how many values and letters a reading holds, each counted each time it is reached (what is shared counts as often as it is met; a slice's spare places count too). A statement '..UptoSaid' is the law's where the arguments, and the package variables that the reading takes, are together of bulk at most 1048576: NARROWER than '..Said'. Prove '..Said' where nothing that the law and all that it calls make is longer than what came in: it says more and counts as full. Else prove '..UptoSaid'. A law counts once. -/
mutual
def uptoBulk {H : Type} : DataW H → Nat
  | .lit (.string bytes) => bytes.length + 1
  | .lit _ => 1
  | .nil => 1
  | .ptr d => uptoBulk d + 1
  | .slice elems spare => uptoBulkAll elems + uptoBulkAll spare + 1
  | .agg parts => uptoBulkAll parts + 1
  | .iface _ d => uptoBulk d + 1
  | .map entries => uptoBulkEntries entries + 1
  | .held _ => 1
def uptoBulkAll {H : Type} : List (DataW H) → Nat
  | [] => 0
  | d :: r => uptoBulk d + uptoBulkAll r
def uptoBulkEntries {H : Type} : List (Lit × DataW H) → Nat
  | [] => 0
  | x :: r => uptoBulkEntry x + uptoBulkEntries r
def uptoBulkEntry {H : Type} : Lit × DataW H → Nat
  | (.string bytes, d) => bytes.length + uptoBulk d + 1
  | (_, d) => uptoBulk d + 1
 end
def uptoSmall : (H : Type) → List (DataW H) → Bool := fun _ ds => decide (uptoBulkAll ds ≤ 1048576)
def OpenSpec.upto (s : _root_.Go.ChangeSpec) : _root_.Go.OpenSpec := { _root_.Go.OpenSpec.ofChange s with cond := some uptoSmall }

/-- 'auspicelaw08.EventChecks', WHERE WHAT IT READS IS OF BULK AT MOST 1048576: true; the input reads as it did. -/
def eventChecksUptoRow : OpenClaim := { program := "ytdmipmkgoefidaa", sum := "d10bcc505feaa1812c3ae5493fbe36db48b5392a833f2b72d645b1117eed2189", func := "auspice/auspicelaw08.EventChecks", spec := "eventChecks", inPlace := ["math.Float64bits", "math.archTrunc", "math.Float64frombits"], apart := false, narrowed := true }
def EventChecksUptoSaid : Prop := eventChecksUptoRow.holds Try.pinned (OpenSpec.upto eventChecksSpec)

/-- 'auspicelaw08.EventTexts', WHERE WHAT IT READS IS OF BULK AT MOST 1048576: true; the input reads as it did. -/
def eventTextsUptoRow : OpenClaim := { program := "ytdmipmkgoefidaa", sum := "d10bcc505feaa1812c3ae5493fbe36db48b5392a833f2b72d645b1117eed2189", func := "auspice/auspicelaw08.EventTexts", spec := "eventTexts", inPlace := ["math.Float64bits", "math.archTrunc", "math.Float64frombits"], apart := false, narrowed := true }
def EventTextsUptoSaid : Prop := eventTextsUptoRow.holds Try.pinned (OpenSpec.upto eventTextsSpec)

/-- 'auspicelaw08.EventHolds', WHERE WHAT IT READS IS OF BULK AT MOST 1048576: true; the input reads as it did. -/
def eventHoldsUptoRow : OpenClaim := { program := "ytdmipmkgoefidaa", sum := "d10bcc505feaa1812c3ae5493fbe36db48b5392a833f2b72d645b1117eed2189", func := "auspice/auspicelaw08.EventHolds", spec := "eventHolds", inPlace := ["math.Float64bits", "math.archTrunc", "math.Float64frombits"], apart := false, narrowed := true }
def EventHoldsUptoSaid : Prop := eventHoldsUptoRow.holds Try.pinned (OpenSpec.upto eventHoldsSpec)

/-- 'auspicelaw08.EventOrder', WHERE WHAT IT READS IS OF BULK AT MOST 1048576: true; the input reads as it did. -/
def eventOrderUptoRow : OpenClaim := { program := "ytdmipmkgoefidaa", sum := "d10bcc505feaa1812c3ae5493fbe36db48b5392a833f2b72d645b1117eed2189", func := "auspice/auspicelaw08.EventOrder", spec := "eventOrder", inPlace := ["math.archTrunc", "math.Float64bits", "math.Float64frombits"], apart := false, narrowed := true }
def EventOrderUptoSaid : Prop := eventOrderUptoRow.holds Try.pinned (OpenSpec.upto eventOrderSpec)

/-- 'auspicelaw08.EventGets', WHERE WHAT IT READS IS OF BULK AT MOST 1048576: true; the input reads as it did. -/
def eventGetsUptoRow : OpenClaim := { program := "ytdmipmkgoefidaa", sum := "d10bcc505feaa1812c3ae5493fbe36db48b5392a833f2b72d645b1117eed2189", func := "auspice/auspicelaw08.EventGets", spec := "eventGets", inPlace := ["math.Float64bits", "math.archTrunc", "math.Float64frombits"], apart := false, narrowed := true }
def EventGetsUptoSaid : Prop := eventGetsUptoRow.holds Try.pinned (OpenSpec.upto eventGetsSpec)

/-- 'auspicelaw08.EventReads', WHERE WHAT IT READS IS OF BULK AT MOST 1048576: true; the input reads as it did. -/
def eventReadsUptoRow : OpenClaim := { program := "ytdmipmkgoefidaa", sum := "d10bcc505feaa1812c3ae5493fbe36db48b5392a833f2b72d645b1117eed2189", func := "auspice/auspicelaw08.EventReads", spec := "eventReads", inPlace := ["math.Float64bits", "math.archTrunc", "math.Float64frombits"], apart := false, narrowed := true }
def EventReadsUptoSaid : Prop := eventReadsUptoRow.holds Try.pinned (OpenSpec.upto eventReadsSpec)

/-- 'auspicelaw08.EventBack', WHERE WHAT IT READS IS OF BULK AT MOST 1048576: true; the input reads as it did. -/
def eventBackUptoRow : OpenClaim := { program := "ytdmipmkgoefidaa", sum := "d10bcc505feaa1812c3ae5493fbe36db48b5392a833f2b72d645b1117eed2189", func := "auspice/auspicelaw08.EventBack", spec := "eventBack", inPlace := ["math.Float64bits", "math.archTrunc", "math.Float64frombits"], apart := false, narrowed := true }
def EventBackUptoSaid : Prop := eventBackUptoRow.holds Try.pinned (OpenSpec.upto eventBackSpec)

end Rows
end Go.Proofs.Ytdmipmkgoefidaa
