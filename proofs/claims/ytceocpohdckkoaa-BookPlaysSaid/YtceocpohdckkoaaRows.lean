/-
  No cell of these rows narrows 'for every input' (looked for: loops, veiled, ifaces, maps, wideKeys, modest, calm, conditions, laid).
  DERIVED. THE GIVEN ROWS OF THIS SEAT. 11 by the template 'for every input the law returns true; each argument reads behind the call as it read before'; 0 by the template 'total and deterministic' (their statements: YtceocpohdckkoaaTotals.lean).
  GIVEN WITH THE SEED: the statements are not yours to turn. If you find one false, say at which input.
  Laid BY PROGRAM, IN A SANDBOX (cutbox-rows.mjs): the forced cells as the released guide's own fill.sh prints them over the translation f15d12971dedad1d… (all of the seat's roots in one cut). By AI agents, Wed Nov 11 2026. No macro, syntax, notation, axiom, sorry.
-/
import Derived.Test.YtceocpohdckkoaaChecked
import GoSem.Claim
import GoSem.ClaimJoined
import GoSem.ClaimMapViews
import Derived.JoinedTies
import Derived.KernelRfl
namespace Go.Proofs.Ytceocpohdckkoaa
/- THE CELL 'sum', in the pinned program and in every row, IS THE sha256 OF THE DUMP (.gsa) THAT YtceocpohdckkoaaProg.lean LOADS. Nothing in Lean hashes anything: it is a label: what it is worth is what the hold of that sum in a sandbox is worth. -/
noncomputable def Try.pinned : Pinned := { name := "ytceocpohdckkoaa", sum := "f15d12971dedad1d48c650605303b42dac1a7a6f7750225521d605d6d641b294", checked := Try.checked }
namespace Rows
def none {H : Type} : Left H := { results := [], args := [] }

/-- 'auspicelaw18.BookReads': WHATEVER THE INPUT: true; the input reads as it did. -/
def bookReadsSpec : ChangeSpec := { name := "bookReads", fn := fun _ => fun
  | [d1, d2] => { results := [.lit (.bool true)], args := [d1, d2] }
  | _ => none }
def bookReadsRow : OpenClaim := { program := "ytceocpohdckkoaa", sum := "f15d12971dedad1d48c650605303b42dac1a7a6f7750225521d605d6d641b294", func := "auspice/auspicelaw18.BookReads", spec := "bookReads", unfollowed := true, recurses := true, apart := false }
def BookReadsSaid : Prop := bookReadsRow.holds Try.pinned (OpenSpec.ofChange bookReadsSpec)

/-- ITS FALSE NEIGHBOUR: 'it returns false'. Refute it at one input. -/
def bookReadsWrong : ChangeSpec := { name := "bookReads", fn := fun _ => fun
  | [d1, d2] => { results := [.lit (.bool false)], args := [d1, d2] }
  | _ => none }
def BookReadsWrongFalsely : Prop := bookReadsRow.holds Try.pinned (OpenSpec.ofChange bookReadsWrong)

/-- 'auspicelaw04.AgendaSorts': WHATEVER THE INPUT: true; the input reads as it did. -/
def agendaSortsSpec : ChangeSpec := { name := "agendaSorts", fn := fun _ => fun
  | [d] => { results := [.lit (.bool true)], args := [d] }
  | _ => none }
def agendaSortsRow : OpenClaim := { program := "ytceocpohdckkoaa", sum := "f15d12971dedad1d48c650605303b42dac1a7a6f7750225521d605d6d641b294", func := "auspice/auspicelaw04.AgendaSorts", spec := "agendaSorts", unfollowed := true, recurses := true, apart := false }
def AgendaSortsSaid : Prop := agendaSortsRow.holds Try.pinned (OpenSpec.ofChange agendaSortsSpec)

/-- ITS FALSE NEIGHBOUR: 'it returns false'. Refute it at one input. -/
def agendaSortsWrong : ChangeSpec := { name := "agendaSorts", fn := fun _ => fun
  | [d] => { results := [.lit (.bool false)], args := [d] }
  | _ => none }
def AgendaSortsWrongFalsely : Prop := agendaSortsRow.holds Try.pinned (OpenSpec.ofChange agendaSortsWrong)

/-- 'auspicelaw04.AgendaWaits': WHATEVER THE INPUT: true; the input reads as it did. -/
def agendaWaitsSpec : ChangeSpec := { name := "agendaWaits", fn := fun _ => fun
  | [d1, d2] => { results := [.lit (.bool true)], args := [d1, d2] }
  | _ => none }
def agendaWaitsRow : OpenClaim := { program := "ytceocpohdckkoaa", sum := "f15d12971dedad1d48c650605303b42dac1a7a6f7750225521d605d6d641b294", func := "auspice/auspicelaw04.AgendaWaits", spec := "agendaWaits", unfollowed := true, recurses := true, apart := false }
def AgendaWaitsSaid : Prop := agendaWaitsRow.holds Try.pinned (OpenSpec.ofChange agendaWaitsSpec)

/-- ITS FALSE NEIGHBOUR: 'it returns false'. Refute it at one input. -/
def agendaWaitsWrong : ChangeSpec := { name := "agendaWaits", fn := fun _ => fun
  | [d1, d2] => { results := [.lit (.bool false)], args := [d1, d2] }
  | _ => none }
def AgendaWaitsWrongFalsely : Prop := agendaWaitsRow.holds Try.pinned (OpenSpec.ofChange agendaWaitsWrong)

/-- 'auspicelaw04.AgendaFull': WHATEVER THE INPUT: true; the input reads as it did. -/
def agendaFullSpec : ChangeSpec := { name := "agendaFull", fn := fun _ => fun
  | [d1, d2] => { results := [.lit (.bool true)], args := [d1, d2] }
  | _ => none }
def agendaFullRow : OpenClaim := { program := "ytceocpohdckkoaa", sum := "f15d12971dedad1d48c650605303b42dac1a7a6f7750225521d605d6d641b294", func := "auspice/auspicelaw04.AgendaFull", spec := "agendaFull", unfollowed := true, recurses := true, apart := false }
def AgendaFullSaid : Prop := agendaFullRow.holds Try.pinned (OpenSpec.ofChange agendaFullSpec)

/-- ITS FALSE NEIGHBOUR: 'it returns false'. Refute it at one input. -/
def agendaFullWrong : ChangeSpec := { name := "agendaFull", fn := fun _ => fun
  | [d1, d2] => { results := [.lit (.bool false)], args := [d1, d2] }
  | _ => none }
def AgendaFullWrongFalsely : Prop := agendaFullRow.holds Try.pinned (OpenSpec.ofChange agendaFullWrong)

/-- 'auspicelaw04.AgendaDrops': WHATEVER THE INPUT: true; the input reads as it did. -/
def agendaDropsSpec : ChangeSpec := { name := "agendaDrops", fn := fun _ => fun
  | [d1, d2, d3] => { results := [.lit (.bool true)], args := [d1, d2, d3] }
  | _ => none }
def agendaDropsRow : OpenClaim := { program := "ytceocpohdckkoaa", sum := "f15d12971dedad1d48c650605303b42dac1a7a6f7750225521d605d6d641b294", func := "auspice/auspicelaw04.AgendaDrops", spec := "agendaDrops", unfollowed := true, recurses := true, apart := false }
def AgendaDropsSaid : Prop := agendaDropsRow.holds Try.pinned (OpenSpec.ofChange agendaDropsSpec)

/-- ITS FALSE NEIGHBOUR: 'it returns false'. Refute it at one input. -/
def agendaDropsWrong : ChangeSpec := { name := "agendaDrops", fn := fun _ => fun
  | [d1, d2, d3] => { results := [.lit (.bool false)], args := [d1, d2, d3] }
  | _ => none }
def AgendaDropsWrongFalsely : Prop := agendaDropsRow.holds Try.pinned (OpenSpec.ofChange agendaDropsWrong)

/-- 'auspicelaw18.BookNil': WHATEVER THE INPUT: true; the input reads as it did. -/
def bookNilSpec : ChangeSpec := { name := "bookNil", fn := fun _ => fun
  | [d1, d2] => { results := [.lit (.bool true)], args := [d1, d2] }
  | _ => none }
def bookNilRow : OpenClaim := { program := "ytceocpohdckkoaa", sum := "f15d12971dedad1d48c650605303b42dac1a7a6f7750225521d605d6d641b294", func := "auspice/auspicelaw18.BookNil", spec := "bookNil", inPlace := ["internal/abi.NoEscape"], unfollowed := true, recurses := true, apart := false }
def BookNilSaid : Prop := bookNilRow.holds Try.pinned (OpenSpec.ofChange bookNilSpec)

/-- ITS FALSE NEIGHBOUR: 'it returns false'. Refute it at one input. -/
def bookNilWrong : ChangeSpec := { name := "bookNil", fn := fun _ => fun
  | [d1, d2] => { results := [.lit (.bool false)], args := [d1, d2] }
  | _ => none }
def BookNilWrongFalsely : Prop := bookNilRow.holds Try.pinned (OpenSpec.ofChange bookNilWrong)

/-- 'auspicelaw18.BookEnds': WHATEVER THE INPUT: true; the input reads as it did. -/
def bookEndsSpec : ChangeSpec := { name := "bookEnds", fn := fun _ => fun
  | [d1, d2] => { results := [.lit (.bool true)], args := [d1, d2] }
  | _ => none }
def bookEndsRow : OpenClaim := { program := "ytceocpohdckkoaa", sum := "f15d12971dedad1d48c650605303b42dac1a7a6f7750225521d605d6d641b294", func := "auspice/auspicelaw18.BookEnds", spec := "bookEnds", unfollowed := true, recurses := true, apart := false }
def BookEndsSaid : Prop := bookEndsRow.holds Try.pinned (OpenSpec.ofChange bookEndsSpec)

/-- ITS FALSE NEIGHBOUR: 'it returns false'. Refute it at one input. -/
def bookEndsWrong : ChangeSpec := { name := "bookEnds", fn := fun _ => fun
  | [d1, d2] => { results := [.lit (.bool false)], args := [d1, d2] }
  | _ => none }
def BookEndsWrongFalsely : Prop := bookEndsRow.holds Try.pinned (OpenSpec.ofChange bookEndsWrong)

/-- 'auspicelaw18.BookPlays': WHATEVER THE INPUT: true; the input reads as it did. -/
def bookPlaysSpec : ChangeSpec := { name := "bookPlays", fn := fun _ => fun
  | [d] => { results := [.lit (.bool true)], args := [d] }
  | _ => none }
def bookPlaysRow : OpenClaim := { program := "ytceocpohdckkoaa", sum := "f15d12971dedad1d48c650605303b42dac1a7a6f7750225521d605d6d641b294", func := "auspice/auspicelaw18.BookPlays", spec := "bookPlays", inPlace := ["internal/abi.NoEscape"], unfollowed := true, recurses := true, apart := false }
def BookPlaysSaid : Prop := bookPlaysRow.holds Try.pinned (OpenSpec.ofChange bookPlaysSpec)

/-- ITS FALSE NEIGHBOUR: 'it returns false'. Refute it at one input. -/
def bookPlaysWrong : ChangeSpec := { name := "bookPlays", fn := fun _ => fun
  | [d] => { results := [.lit (.bool false)], args := [d] }
  | _ => none }
def BookPlaysWrongFalsely : Prop := bookPlaysRow.holds Try.pinned (OpenSpec.ofChange bookPlaysWrong)

/-- 'auspicelaw18.BookLoads': WHATEVER THE INPUT: true; the input reads as it did. -/
def bookLoadsSpec : ChangeSpec := { name := "bookLoads", fn := fun _ => fun
  | [d] => { results := [.lit (.bool true)], args := [d] }
  | _ => none }
def bookLoadsRow : OpenClaim := { program := "ytceocpohdckkoaa", sum := "f15d12971dedad1d48c650605303b42dac1a7a6f7750225521d605d6d641b294", func := "auspice/auspicelaw18.BookLoads", spec := "bookLoads", inPlace := ["internal/abi.NoEscape"], unfollowed := true, recurses := true, apart := false }
def BookLoadsSaid : Prop := bookLoadsRow.holds Try.pinned (OpenSpec.ofChange bookLoadsSpec)

/-- ITS FALSE NEIGHBOUR: 'it returns false'. Refute it at one input. -/
def bookLoadsWrong : ChangeSpec := { name := "bookLoads", fn := fun _ => fun
  | [d] => { results := [.lit (.bool false)], args := [d] }
  | _ => none }
def BookLoadsWrongFalsely : Prop := bookLoadsRow.holds Try.pinned (OpenSpec.ofChange bookLoadsWrong)

/-- 'auspicelaw04.AgendaPlays': WHATEVER THE INPUT: true; the input reads as it did. -/
def agendaPlaysSpec : ChangeSpec := { name := "agendaPlays", fn := fun _ => fun
  | [d] => { results := [.lit (.bool true)], args := [d] }
  | _ => none }
def agendaPlaysRow : OpenClaim := { program := "ytceocpohdckkoaa", sum := "f15d12971dedad1d48c650605303b42dac1a7a6f7750225521d605d6d641b294", func := "auspice/auspicelaw04.AgendaPlays", spec := "agendaPlays", unfollowed := true, recurses := true, apart := false }
def AgendaPlaysSaid : Prop := agendaPlaysRow.holds Try.pinned (OpenSpec.ofChange agendaPlaysSpec)

/-- ITS FALSE NEIGHBOUR: 'it returns false'. Refute it at one input. -/
def agendaPlaysWrong : ChangeSpec := { name := "agendaPlays", fn := fun _ => fun
  | [d] => { results := [.lit (.bool false)], args := [d] }
  | _ => none }
def AgendaPlaysWrongFalsely : Prop := agendaPlaysRow.holds Try.pinned (OpenSpec.ofChange agendaPlaysWrong)

/-- 'auspicelaw04.AgendaNil': WHATEVER THE INPUT: true; the input reads as it did. -/
def agendaNilSpec : ChangeSpec := { name := "agendaNil", fn := fun _ => fun
  | [d] => { results := [.lit (.bool true)], args := [d] }
  | _ => none }
def agendaNilRow : OpenClaim := { program := "ytceocpohdckkoaa", sum := "f15d12971dedad1d48c650605303b42dac1a7a6f7750225521d605d6d641b294", func := "auspice/auspicelaw04.AgendaNil", spec := "agendaNil", unfollowed := true, recurses := true, apart := false }
def AgendaNilSaid : Prop := agendaNilRow.holds Try.pinned (OpenSpec.ofChange agendaNilSpec)

/-- ITS FALSE NEIGHBOUR: 'it returns false'. Refute it at one input. -/
def agendaNilWrong : ChangeSpec := { name := "agendaNil", fn := fun _ => fun
  | [d] => { results := [.lit (.bool false)], args := [d] }
  | _ => none }
def AgendaNilWrongFalsely : Prop := agendaNilRow.holds Try.pinned (OpenSpec.ofChange agendaNilWrong)

/- THE SECOND FORM. 'bulk': how many values and letters a reading holds, each counted each time it is reached (what is shared counts as often as it is met; a slice's spare places count too). A statement '..UptoSaid' is the law's where the arguments, and the package variables that the reading takes, are together of bulk at most 1048576: NARROWER than '..Said'. Prove '..Said' where nothing that the law and all that it calls make is longer than what came in: it says more and counts as full. Else prove '..UptoSaid'. A law counts once. -/
mutual
def uptoBulk {H : Type} : DataW H → Nat
  | .lit (.string bytes) => bytes.length + 1
  | .lit _ => 1
  | .nil => 1
  | .ptr d => uptoBulk d + 1
  | .slice elems spare => uptoBulkAll elems + uptoBulkAll spare + 1
  | .agg parts => uptoBulkAll parts + 1
  | .iface _ d => uptoBulk d + 1
  | .map entries => uptoBulkEntries entries + 1
  | .held _ => 1
def uptoBulkAll {H : Type} : List (DataW H) → Nat
  | [] => 0
  | d :: r => uptoBulk d + uptoBulkAll r
def uptoBulkEntries {H : Type} : List (Lit × DataW H) → Nat
  | [] => 0
  | x :: r => uptoBulkEntry x + uptoBulkEntries r
def uptoBulkEntry {H : Type} : Lit × DataW H → Nat
  | (.string bytes, d) => bytes.length + uptoBulk d + 1
  | (_, d) => uptoBulk d + 1
 end
def uptoSmall : (H : Type) → List (DataW H) → Bool := fun _ ds => decide (uptoBulkAll ds ≤ 1048576)
def OpenSpec.upto (s : _root_.Go.ChangeSpec) : _root_.Go.OpenSpec := { _root_.Go.OpenSpec.ofChange s with cond := some uptoSmall }

/-- 'auspicelaw18.BookReads', WHERE WHAT IT READS IS OF BULK AT MOST 1048576: true; the input reads as it did. -/
def bookReadsUptoRow : OpenClaim := { program := "ytceocpohdckkoaa", sum := "f15d12971dedad1d48c650605303b42dac1a7a6f7750225521d605d6d641b294", func := "auspice/auspicelaw18.BookReads", spec := "bookReads", unfollowed := true, recurses := true, apart := false, narrowed := true }
def BookReadsUptoSaid : Prop := bookReadsUptoRow.holds Try.pinned (OpenSpec.upto bookReadsSpec)

/-- 'auspicelaw04.AgendaSorts', WHERE WHAT IT READS IS OF BULK AT MOST 1048576: true; the input reads as it did. -/
def agendaSortsUptoRow : OpenClaim := { program := "ytceocpohdckkoaa", sum := "f15d12971dedad1d48c650605303b42dac1a7a6f7750225521d605d6d641b294", func := "auspice/auspicelaw04.AgendaSorts", spec := "agendaSorts", unfollowed := true, recurses := true, apart := false, narrowed := true }
def AgendaSortsUptoSaid : Prop := agendaSortsUptoRow.holds Try.pinned (OpenSpec.upto agendaSortsSpec)

/-- 'auspicelaw04.AgendaWaits', WHERE WHAT IT READS IS OF BULK AT MOST 1048576: true; the input reads as it did. -/
def agendaWaitsUptoRow : OpenClaim := { program := "ytceocpohdckkoaa", sum := "f15d12971dedad1d48c650605303b42dac1a7a6f7750225521d605d6d641b294", func := "auspice/auspicelaw04.AgendaWaits", spec := "agendaWaits", unfollowed := true, recurses := true, apart := false, narrowed := true }
def AgendaWaitsUptoSaid : Prop := agendaWaitsUptoRow.holds Try.pinned (OpenSpec.upto agendaWaitsSpec)

/-- 'auspicelaw04.AgendaFull', WHERE WHAT IT READS IS OF BULK AT MOST 1048576: true; the input reads as it did. -/
def agendaFullUptoRow : OpenClaim := { program := "ytceocpohdckkoaa", sum := "f15d12971dedad1d48c650605303b42dac1a7a6f7750225521d605d6d641b294", func := "auspice/auspicelaw04.AgendaFull", spec := "agendaFull", unfollowed := true, recurses := true, apart := false, narrowed := true }
def AgendaFullUptoSaid : Prop := agendaFullUptoRow.holds Try.pinned (OpenSpec.upto agendaFullSpec)

/-- 'auspicelaw04.AgendaDrops', WHERE WHAT IT READS IS OF BULK AT MOST 1048576: true; the input reads as it did. -/
def agendaDropsUptoRow : OpenClaim := { program := "ytceocpohdckkoaa", sum := "f15d12971dedad1d48c650605303b42dac1a7a6f7750225521d605d6d641b294", func := "auspice/auspicelaw04.AgendaDrops", spec := "agendaDrops", unfollowed := true, recurses := true, apart := false, narrowed := true }
def AgendaDropsUptoSaid : Prop := agendaDropsUptoRow.holds Try.pinned (OpenSpec.upto agendaDropsSpec)

/-- 'auspicelaw18.BookNil', WHERE WHAT IT READS IS OF BULK AT MOST 1048576: true; the input reads as it did. -/
def bookNilUptoRow : OpenClaim := { program := "ytceocpohdckkoaa", sum := "f15d12971dedad1d48c650605303b42dac1a7a6f7750225521d605d6d641b294", func := "auspice/auspicelaw18.BookNil", spec := "bookNil", inPlace := ["internal/abi.NoEscape"], unfollowed := true, recurses := true, apart := false, narrowed := true }
def BookNilUptoSaid : Prop := bookNilUptoRow.holds Try.pinned (OpenSpec.upto bookNilSpec)

/-- 'auspicelaw18.BookEnds', WHERE WHAT IT READS IS OF BULK AT MOST 1048576: true; the input reads as it did. -/
def bookEndsUptoRow : OpenClaim := { program := "ytceocpohdckkoaa", sum := "f15d12971dedad1d48c650605303b42dac1a7a6f7750225521d605d6d641b294", func := "auspice/auspicelaw18.BookEnds", spec := "bookEnds", unfollowed := true, recurses := true, apart := false, narrowed := true }
def BookEndsUptoSaid : Prop := bookEndsUptoRow.holds Try.pinned (OpenSpec.upto bookEndsSpec)

/-- 'auspicelaw18.BookPlays', WHERE WHAT IT READS IS OF BULK AT MOST 1048576: true; the input reads as it did. -/
def bookPlaysUptoRow : OpenClaim := { program := "ytceocpohdckkoaa", sum := "f15d12971dedad1d48c650605303b42dac1a7a6f7750225521d605d6d641b294", func := "auspice/auspicelaw18.BookPlays", spec := "bookPlays", inPlace := ["internal/abi.NoEscape"], unfollowed := true, recurses := true, apart := false, narrowed := true }
def BookPlaysUptoSaid : Prop := bookPlaysUptoRow.holds Try.pinned (OpenSpec.upto bookPlaysSpec)

/-- 'auspicelaw18.BookLoads', WHERE WHAT IT READS IS OF BULK AT MOST 1048576: true; the input reads as it did. -/
def bookLoadsUptoRow : OpenClaim := { program := "ytceocpohdckkoaa", sum := "f15d12971dedad1d48c650605303b42dac1a7a6f7750225521d605d6d641b294", func := "auspice/auspicelaw18.BookLoads", spec := "bookLoads", inPlace := ["internal/abi.NoEscape"], unfollowed := true, recurses := true, apart := false, narrowed := true }
def BookLoadsUptoSaid : Prop := bookLoadsUptoRow.holds Try.pinned (OpenSpec.upto bookLoadsSpec)

/-- 'auspicelaw04.AgendaPlays', WHERE WHAT IT READS IS OF BULK AT MOST 1048576: true; the input reads as it did. -/
def agendaPlaysUptoRow : OpenClaim := { program := "ytceocpohdckkoaa", sum := "f15d12971dedad1d48c650605303b42dac1a7a6f7750225521d605d6d641b294", func := "auspice/auspicelaw04.AgendaPlays", spec := "agendaPlays", unfollowed := true, recurses := true, apart := false, narrowed := true }
def AgendaPlaysUptoSaid : Prop := agendaPlaysUptoRow.holds Try.pinned (OpenSpec.upto agendaPlaysSpec)

/-- 'auspicelaw04.AgendaNil', WHERE WHAT IT READS IS OF BULK AT MOST 1048576: true; the input reads as it did. -/
def agendaNilUptoRow : OpenClaim := { program := "ytceocpohdckkoaa", sum := "f15d12971dedad1d48c650605303b42dac1a7a6f7750225521d605d6d641b294", func := "auspice/auspicelaw04.AgendaNil", spec := "agendaNil", unfollowed := true, recurses := true, apart := false, narrowed := true }
def AgendaNilUptoSaid : Prop := agendaNilUptoRow.holds Try.pinned (OpenSpec.upto agendaNilSpec)

end Rows
end Go.Proofs.Ytceocpohdckkoaa
