/-
  No cell of these rows narrows 'for every input' (looked for: loops, veiled, ifaces, maps, wideKeys, modest, calm, conditions, laid).
  DERIVED. THE GIVEN ROWS OF THIS SEAT. 10 by the template 'for every input the law returns true; each argument reads behind the call as it read before'; 0 by the template 'total and deterministic' (their statements: YtkgedgihjmhogaaTotals.lean).
  GIVEN WITH THE SEED: the statements are not yours to turn. If you find one false, say at which input.
  Laid BY PROGRAM, IN A SANDBOX (cutbox-rows.mjs): the forced cells as the released guide's own fill.sh prints them over the translation 241957b714404331… (all of the seat's roots in one cut). By AI agents, Wed Nov 11 2026. No macro, syntax, notation, axiom, sorry.
-/
import Derived.Test.YtkgedgihjmhogaaChecked
import GoSem.Claim
import GoSem.ClaimJoined
import GoSem.ClaimMapViews
import Derived.JoinedTies
import Derived.KernelRfl
namespace Go.Proofs.Ytkgedgihjmhogaa
/- THE CELL 'sum', in the pinned program and in every row, IS THE sha256 OF THE DUMP (.gsa) THAT YtkgedgihjmhogaaProg.lean LOADS. Nothing in Lean hashes anything: it is a label: what it is worth is what the hold of that sum in a sandbox is worth. -/
noncomputable def Try.pinned : Pinned := { name := "ytkgedgihjmhogaa", sum := "241957b7144043310323977ee10ab100986cb9799fbb7ffb7e4a0a2d6eb11c42", checked := Try.checked }
namespace Rows
def none {H : Type} : Left H := { results := [], args := [] }

/-- 'auspicelaw21.NetOnce': WHATEVER THE INPUT: true; the input reads as it did. -/
def netOnceSpec : ChangeSpec := { name := "netOnce", fn := fun _ => fun
  | [d1, d2] => { results := [.lit (.bool true)], args := [d1, d2] }
  | _ => none }
def netOnceRow : OpenClaim := { program := "ytkgedgihjmhogaa", sum := "241957b7144043310323977ee10ab100986cb9799fbb7ffb7e4a0a2d6eb11c42", func := "auspice/auspicelaw21.NetOnce", spec := "netOnce", unfollowed := true, recurses := true, apart := false }
def NetOnceSaid : Prop := netOnceRow.holds Try.pinned (OpenSpec.ofChange netOnceSpec)

/-- ITS FALSE NEIGHBOUR: 'it returns false'. Refute it at one input. -/
def netOnceWrong : ChangeSpec := { name := "netOnce", fn := fun _ => fun
  | [d1, d2] => { results := [.lit (.bool false)], args := [d1, d2] }
  | _ => none }
def NetOnceWrongFalsely : Prop := netOnceRow.holds Try.pinned (OpenSpec.ofChange netOnceWrong)

/-- 'auspicelaw21.NetOff': WHATEVER THE INPUT: true; the input reads as it did. -/
def netOffSpec : ChangeSpec := { name := "netOff", fn := fun _ => fun
  | [d1, d2, d3] => { results := [.lit (.bool true)], args := [d1, d2, d3] }
  | _ => none }
def netOffRow : OpenClaim := { program := "ytkgedgihjmhogaa", sum := "241957b7144043310323977ee10ab100986cb9799fbb7ffb7e4a0a2d6eb11c42", func := "auspice/auspicelaw21.NetOff", spec := "netOff", unfollowed := true, recurses := true, apart := false }
def NetOffSaid : Prop := netOffRow.holds Try.pinned (OpenSpec.ofChange netOffSpec)

/-- ITS FALSE NEIGHBOUR: 'it returns false'. Refute it at one input. -/
def netOffWrong : ChangeSpec := { name := "netOff", fn := fun _ => fun
  | [d1, d2, d3] => { results := [.lit (.bool false)], args := [d1, d2, d3] }
  | _ => none }
def NetOffWrongFalsely : Prop := netOffRow.holds Try.pinned (OpenSpec.ofChange netOffWrong)

/-- 'auspicelaw15.CouncilCounts': WHATEVER THE INPUT: true; the input reads as it did. -/
def councilCountsSpec : ChangeSpec := { name := "councilCounts", fn := fun _ => fun
  | [d1, d2, d3] => { results := [.lit (.bool true)], args := [d1, d2, d3] }
  | _ => none }
def councilCountsRow : OpenClaim := { program := "ytkgedgihjmhogaa", sum := "241957b7144043310323977ee10ab100986cb9799fbb7ffb7e4a0a2d6eb11c42", func := "auspice/auspicelaw15.CouncilCounts", spec := "councilCounts", recurses := true, apart := false }
def CouncilCountsSaid : Prop := councilCountsRow.holds Try.pinned (OpenSpec.ofChange councilCountsSpec)

/-- ITS FALSE NEIGHBOUR: 'it returns false'. Refute it at one input. -/
def councilCountsWrong : ChangeSpec := { name := "councilCounts", fn := fun _ => fun
  | [d1, d2, d3] => { results := [.lit (.bool false)], args := [d1, d2, d3] }
  | _ => none }
def CouncilCountsWrongFalsely : Prop := councilCountsRow.holds Try.pinned (OpenSpec.ofChange councilCountsWrong)

/-- 'auspicelaw15.CouncilReaches': WHATEVER THE INPUT: true; the input reads as it did. -/
def councilReachesSpec : ChangeSpec := { name := "councilReaches", fn := fun _ => fun
  | [d1, d2, d3] => { results := [.lit (.bool true)], args := [d1, d2, d3] }
  | _ => none }
def councilReachesRow : OpenClaim := { program := "ytkgedgihjmhogaa", sum := "241957b7144043310323977ee10ab100986cb9799fbb7ffb7e4a0a2d6eb11c42", func := "auspice/auspicelaw15.CouncilReaches", spec := "councilReaches", recurses := true, apart := false }
def CouncilReachesSaid : Prop := councilReachesRow.holds Try.pinned (OpenSpec.ofChange councilReachesSpec)

/-- ITS FALSE NEIGHBOUR: 'it returns false'. Refute it at one input. -/
def councilReachesWrong : ChangeSpec := { name := "councilReaches", fn := fun _ => fun
  | [d1, d2, d3] => { results := [.lit (.bool false)], args := [d1, d2, d3] }
  | _ => none }
def CouncilReachesWrongFalsely : Prop := councilReachesRow.holds Try.pinned (OpenSpec.ofChange councilReachesWrong)

/-- 'auspicelaw15.CouncilMeets': WHATEVER THE INPUT: true; the input reads as it did. -/
def councilMeetsSpec : ChangeSpec := { name := "councilMeets", fn := fun _ => fun
  | [d1, d2, d3] => { results := [.lit (.bool true)], args := [d1, d2, d3] }
  | _ => none }
def councilMeetsRow : OpenClaim := { program := "ytkgedgihjmhogaa", sum := "241957b7144043310323977ee10ab100986cb9799fbb7ffb7e4a0a2d6eb11c42", func := "auspice/auspicelaw15.CouncilMeets", spec := "councilMeets", recurses := true, apart := false }
def CouncilMeetsSaid : Prop := councilMeetsRow.holds Try.pinned (OpenSpec.ofChange councilMeetsSpec)

/-- ITS FALSE NEIGHBOUR: 'it returns false'. Refute it at one input. -/
def councilMeetsWrong : ChangeSpec := { name := "councilMeets", fn := fun _ => fun
  | [d1, d2, d3] => { results := [.lit (.bool false)], args := [d1, d2, d3] }
  | _ => none }
def CouncilMeetsWrongFalsely : Prop := councilMeetsRow.holds Try.pinned (OpenSpec.ofChange councilMeetsWrong)

/-- 'auspicelaw15.CouncilAll': WHATEVER THE INPUT: true; the input reads as it did. -/
def councilAllSpec : ChangeSpec := { name := "councilAll", fn := fun _ => fun
  | [d] => { results := [.lit (.bool true)], args := [d] }
  | _ => none }
def councilAllRow : OpenClaim := { program := "ytkgedgihjmhogaa", sum := "241957b7144043310323977ee10ab100986cb9799fbb7ffb7e4a0a2d6eb11c42", func := "auspice/auspicelaw15.CouncilAll", spec := "councilAll", recurses := true, apart := false }
def CouncilAllSaid : Prop := councilAllRow.holds Try.pinned (OpenSpec.ofChange councilAllSpec)

/-- ITS FALSE NEIGHBOUR: 'it returns false'. Refute it at one input. -/
def councilAllWrong : ChangeSpec := { name := "councilAll", fn := fun _ => fun
  | [d] => { results := [.lit (.bool false)], args := [d] }
  | _ => none }
def CouncilAllWrongFalsely : Prop := councilAllRow.holds Try.pinned (OpenSpec.ofChange councilAllWrong)

/-- 'auspicelaw15.CouncilLine': WHATEVER THE INPUT: true; the input reads as it did. -/
def councilLineSpec : ChangeSpec := { name := "councilLine", fn := fun _ => fun
  | [d1, d2] => { results := [.lit (.bool true)], args := [d1, d2] }
  | _ => none }
def councilLineRow : OpenClaim := { program := "ytkgedgihjmhogaa", sum := "241957b7144043310323977ee10ab100986cb9799fbb7ffb7e4a0a2d6eb11c42", func := "auspice/auspicelaw15.CouncilLine", spec := "councilLine", recurses := true, apart := false }
def CouncilLineSaid : Prop := councilLineRow.holds Try.pinned (OpenSpec.ofChange councilLineSpec)

/-- ITS FALSE NEIGHBOUR: 'it returns false'. Refute it at one input. -/
def councilLineWrong : ChangeSpec := { name := "councilLine", fn := fun _ => fun
  | [d1, d2] => { results := [.lit (.bool false)], args := [d1, d2] }
  | _ => none }
def CouncilLineWrongFalsely : Prop := councilLineRow.holds Try.pinned (OpenSpec.ofChange councilLineWrong)

/-- 'auspicelaw15.CouncilGrows': WHATEVER THE INPUT: true; the input reads as it did. -/
def councilGrowsSpec : ChangeSpec := { name := "councilGrows", fn := fun _ => fun
  | [d1, d2, d3] => { results := [.lit (.bool true)], args := [d1, d2, d3] }
  | _ => none }
def councilGrowsRow : OpenClaim := { program := "ytkgedgihjmhogaa", sum := "241957b7144043310323977ee10ab100986cb9799fbb7ffb7e4a0a2d6eb11c42", func := "auspice/auspicelaw15.CouncilGrows", spec := "councilGrows", recurses := true, apart := false }
def CouncilGrowsSaid : Prop := councilGrowsRow.holds Try.pinned (OpenSpec.ofChange councilGrowsSpec)

/-- ITS FALSE NEIGHBOUR: 'it returns false'. Refute it at one input. -/
def councilGrowsWrong : ChangeSpec := { name := "councilGrows", fn := fun _ => fun
  | [d1, d2, d3] => { results := [.lit (.bool false)], args := [d1, d2, d3] }
  | _ => none }
def CouncilGrowsWrongFalsely : Prop := councilGrowsRow.holds Try.pinned (OpenSpec.ofChange councilGrowsWrong)

/-- 'auspicelaw21.NetFull': WHATEVER THE INPUT: true; the input reads as it did. -/
def netFullSpec : ChangeSpec := { name := "netFull", fn := fun _ => fun
  | [d] => { results := [.lit (.bool true)], args := [d] }
  | _ => none }
def netFullRow : OpenClaim := { program := "ytkgedgihjmhogaa", sum := "241957b7144043310323977ee10ab100986cb9799fbb7ffb7e4a0a2d6eb11c42", func := "auspice/auspicelaw21.NetFull", spec := "netFull", unfollowed := true, recurses := true, apart := false }
def NetFullSaid : Prop := netFullRow.holds Try.pinned (OpenSpec.ofChange netFullSpec)

/-- ITS FALSE NEIGHBOUR: 'it returns false'. Refute it at one input. -/
def netFullWrong : ChangeSpec := { name := "netFull", fn := fun _ => fun
  | [d] => { results := [.lit (.bool false)], args := [d] }
  | _ => none }
def NetFullWrongFalsely : Prop := netFullRow.holds Try.pinned (OpenSpec.ofChange netFullWrong)

/-- 'auspicelaw21.NetPlays': WHATEVER THE INPUT: true; the input reads as it did. -/
def netPlaysSpec : ChangeSpec := { name := "netPlays", fn := fun _ => fun
  | [d] => { results := [.lit (.bool true)], args := [d] }
  | _ => none }
def netPlaysRow : OpenClaim := { program := "ytkgedgihjmhogaa", sum := "241957b7144043310323977ee10ab100986cb9799fbb7ffb7e4a0a2d6eb11c42", func := "auspice/auspicelaw21.NetPlays", spec := "netPlays", unfollowed := true, recurses := true, apart := false }
def NetPlaysSaid : Prop := netPlaysRow.holds Try.pinned (OpenSpec.ofChange netPlaysSpec)

/-- ITS FALSE NEIGHBOUR: 'it returns false'. Refute it at one input. -/
def netPlaysWrong : ChangeSpec := { name := "netPlays", fn := fun _ => fun
  | [d] => { results := [.lit (.bool false)], args := [d] }
  | _ => none }
def NetPlaysWrongFalsely : Prop := netPlaysRow.holds Try.pinned (OpenSpec.ofChange netPlaysWrong)

/- THE SECOND FORM. 'bulk': how many values and letters a reading holds, each counted each time it is reached (what is shared counts as often as it is met; a slice's spare places count too). A statement '..UptoSaid' is the law's where the arguments, and the package variables that the reading takes, are together of bulk at most 1048576: NARROWER than '..Said'. Prove '..Said' where nothing that the law and all that it calls make is longer than what came in: it says more and counts as full. Else prove '..UptoSaid'. A law counts once. -/
mutual
def uptoBulk {H : Type} : DataW H → Nat
  | .lit (.string bytes) => bytes.length + 1
  | .lit _ => 1
  | .nil => 1
  | .ptr d => uptoBulk d + 1
  | .slice elems spare => uptoBulkAll elems + uptoBulkAll spare + 1
  | .agg parts => uptoBulkAll parts + 1
  | .iface _ d => uptoBulk d + 1
  | .map entries => uptoBulkEntries entries + 1
  | .held _ => 1
def uptoBulkAll {H : Type} : List (DataW H) → Nat
  | [] => 0
  | d :: r => uptoBulk d + uptoBulkAll r
def uptoBulkEntries {H : Type} : List (Lit × DataW H) → Nat
  | [] => 0
  | x :: r => uptoBulkEntry x + uptoBulkEntries r
def uptoBulkEntry {H : Type} : Lit × DataW H → Nat
  | (.string bytes, d) => bytes.length + uptoBulk d + 1
  | (_, d) => uptoBulk d + 1
 end
def uptoSmall : (H : Type) → List (DataW H) → Bool := fun _ ds => decide (uptoBulkAll ds ≤ 1048576)
def OpenSpec.upto (s : _root_.Go.ChangeSpec) : _root_.Go.OpenSpec := { _root_.Go.OpenSpec.ofChange s with cond := some uptoSmall }

/-- 'auspicelaw21.NetOnce', WHERE WHAT IT READS IS OF BULK AT MOST 1048576: true; the input reads as it did. -/
def netOnceUptoRow : OpenClaim := { program := "ytkgedgihjmhogaa", sum := "241957b7144043310323977ee10ab100986cb9799fbb7ffb7e4a0a2d6eb11c42", func := "auspice/auspicelaw21.NetOnce", spec := "netOnce", unfollowed := true, recurses := true, apart := false, narrowed := true }
def NetOnceUptoSaid : Prop := netOnceUptoRow.holds Try.pinned (OpenSpec.upto netOnceSpec)

/-- 'auspicelaw21.NetOff', WHERE WHAT IT READS IS OF BULK AT MOST 1048576: true; the input reads as it did. -/
def netOffUptoRow : OpenClaim := { program := "ytkgedgihjmhogaa", sum := "241957b7144043310323977ee10ab100986cb9799fbb7ffb7e4a0a2d6eb11c42", func := "auspice/auspicelaw21.NetOff", spec := "netOff", unfollowed := true, recurses := true, apart := false, narrowed := true }
def NetOffUptoSaid : Prop := netOffUptoRow.holds Try.pinned (OpenSpec.upto netOffSpec)

/-- 'auspicelaw15.CouncilCounts', WHERE WHAT IT READS IS OF BULK AT MOST 1048576: true; the input reads as it did. -/
def councilCountsUptoRow : OpenClaim := { program := "ytkgedgihjmhogaa", sum := "241957b7144043310323977ee10ab100986cb9799fbb7ffb7e4a0a2d6eb11c42", func := "auspice/auspicelaw15.CouncilCounts", spec := "councilCounts", recurses := true, apart := false, narrowed := true }
def CouncilCountsUptoSaid : Prop := councilCountsUptoRow.holds Try.pinned (OpenSpec.upto councilCountsSpec)

/-- 'auspicelaw15.CouncilReaches', WHERE WHAT IT READS IS OF BULK AT MOST 1048576: true; the input reads as it did. -/
def councilReachesUptoRow : OpenClaim := { program := "ytkgedgihjmhogaa", sum := "241957b7144043310323977ee10ab100986cb9799fbb7ffb7e4a0a2d6eb11c42", func := "auspice/auspicelaw15.CouncilReaches", spec := "councilReaches", recurses := true, apart := false, narrowed := true }
def CouncilReachesUptoSaid : Prop := councilReachesUptoRow.holds Try.pinned (OpenSpec.upto councilReachesSpec)

/-- 'auspicelaw15.CouncilMeets', WHERE WHAT IT READS IS OF BULK AT MOST 1048576: true; the input reads as it did. -/
def councilMeetsUptoRow : OpenClaim := { program := "ytkgedgihjmhogaa", sum := "241957b7144043310323977ee10ab100986cb9799fbb7ffb7e4a0a2d6eb11c42", func := "auspice/auspicelaw15.CouncilMeets", spec := "councilMeets", recurses := true, apart := false, narrowed := true }
def CouncilMeetsUptoSaid : Prop := councilMeetsUptoRow.holds Try.pinned (OpenSpec.upto councilMeetsSpec)

/-- 'auspicelaw15.CouncilAll', WHERE WHAT IT READS IS OF BULK AT MOST 1048576: true; the input reads as it did. -/
def councilAllUptoRow : OpenClaim := { program := "ytkgedgihjmhogaa", sum := "241957b7144043310323977ee10ab100986cb9799fbb7ffb7e4a0a2d6eb11c42", func := "auspice/auspicelaw15.CouncilAll", spec := "councilAll", recurses := true, apart := false, narrowed := true }
def CouncilAllUptoSaid : Prop := councilAllUptoRow.holds Try.pinned (OpenSpec.upto councilAllSpec)

/-- 'auspicelaw15.CouncilLine', WHERE WHAT IT READS IS OF BULK AT MOST 1048576: true; the input reads as it did. -/
def councilLineUptoRow : OpenClaim := { program := "ytkgedgihjmhogaa", sum := "241957b7144043310323977ee10ab100986cb9799fbb7ffb7e4a0a2d6eb11c42", func := "auspice/auspicelaw15.CouncilLine", spec := "councilLine", recurses := true, apart := false, narrowed := true }
def CouncilLineUptoSaid : Prop := councilLineUptoRow.holds Try.pinned (OpenSpec.upto councilLineSpec)

/-- 'auspicelaw15.CouncilGrows', WHERE WHAT IT READS IS OF BULK AT MOST 1048576: true; the input reads as it did. -/
def councilGrowsUptoRow : OpenClaim := { program := "ytkgedgihjmhogaa", sum := "241957b7144043310323977ee10ab100986cb9799fbb7ffb7e4a0a2d6eb11c42", func := "auspice/auspicelaw15.CouncilGrows", spec := "councilGrows", recurses := true, apart := false, narrowed := true }
def CouncilGrowsUptoSaid : Prop := councilGrowsUptoRow.holds Try.pinned (OpenSpec.upto councilGrowsSpec)

/-- 'auspicelaw21.NetFull', WHERE WHAT IT READS IS OF BULK AT MOST 1048576: true; the input reads as it did. -/
def netFullUptoRow : OpenClaim := { program := "ytkgedgihjmhogaa", sum := "241957b7144043310323977ee10ab100986cb9799fbb7ffb7e4a0a2d6eb11c42", func := "auspice/auspicelaw21.NetFull", spec := "netFull", unfollowed := true, recurses := true, apart := false, narrowed := true }
def NetFullUptoSaid : Prop := netFullUptoRow.holds Try.pinned (OpenSpec.upto netFullSpec)

/-- 'auspicelaw21.NetPlays', WHERE WHAT IT READS IS OF BULK AT MOST 1048576: true; the input reads as it did. -/
def netPlaysUptoRow : OpenClaim := { program := "ytkgedgihjmhogaa", sum := "241957b7144043310323977ee10ab100986cb9799fbb7ffb7e4a0a2d6eb11c42", func := "auspice/auspicelaw21.NetPlays", spec := "netPlays", unfollowed := true, recurses := true, apart := false, narrowed := true }
def NetPlaysUptoSaid : Prop := netPlaysUptoRow.holds Try.pinned (OpenSpec.upto netPlaysSpec)

end Rows
end Go.Proofs.Ytkgedgihjmhogaa
