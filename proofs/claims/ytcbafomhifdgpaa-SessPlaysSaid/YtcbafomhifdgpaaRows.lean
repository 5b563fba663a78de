/-
  No cell of these rows narrows 'for every input' (looked for: loops, veiled, ifaces, maps, wideKeys, modest, calm, conditions, laid).
  DERIVED. THE GIVEN ROWS OF THIS SEAT. 9 by the template 'for every input the law returns true; each argument reads behind the call as it read before'; 0 by the template 'total and deterministic' (their statements: YtcbafomhifdgpaaTotals.lean).
  GIVEN WITH THE SEED: the statements are not yours to turn. If you find one false, say at which input.
  Laid BY PROGRAM, IN A SANDBOX (cutbox-rows.mjs): the forced cells as the released guide's own fill.sh prints them over the translation df0676e072f8e193… (all of the seat's roots in one cut). By AI agents, Wed Nov 11 2026. No macro, syntax, notation, axiom, sorry.
-/
import Derived.Test.YtcbafomhifdgpaaChecked
import GoSem.Claim
import GoSem.ClaimJoined
import GoSem.ClaimMapViews
import Derived.JoinedTies
import Derived.KernelRfl
namespace Go.Proofs.Ytcbafomhifdgpaa
/- THE CELL 'sum', in the pinned program and in every row, IS THE sha256 OF THE DUMP (.gsa) THAT YtcbafomhifdgpaaProg.lean LOADS. Nothing in Lean hashes anything: it is a label: what it is worth is what the hold of that sum in a sandbox is worth. -/
noncomputable def Try.pinned : Pinned := { name := "ytcbafomhifdgpaa", sum := "df0676e072f8e193534d608b76c2cc5bb8c79deff2c4afb4a4688630f931550a", checked := Try.checked }
namespace Rows
def none {H : Type} : Left H := { results := [], args := [] }

/-- 'auspicelaw14.KeepWrites': WHATEVER THE INPUT: true; the input reads as it did. -/
def keepWritesSpec : ChangeSpec := { name := "keepWrites", fn := fun _ => fun
  | [d] => { results := [.lit (.bool true)], args := [d] }
  | _ => none }
def keepWritesRow : OpenClaim := { program := "ytcbafomhifdgpaa", sum := "df0676e072f8e193534d608b76c2cc5bb8c79deff2c4afb4a4688630f931550a", func := "auspice/auspicelaw14.KeepWrites", spec := "keepWrites", inPlace := ["internal/abi.NoEscape"], unfollowed := true, recurses := true, apart := false }
def KeepWritesSaid : Prop := keepWritesRow.holds Try.pinned (OpenSpec.ofChange keepWritesSpec)

/-- ITS FALSE NEIGHBOUR: 'it returns false'. Refute it at one input. -/
def keepWritesWrong : ChangeSpec := { name := "keepWrites", fn := fun _ => fun
  | [d] => { results := [.lit (.bool false)], args := [d] }
  | _ => none }
def KeepWritesWrongFalsely : Prop := keepWritesRow.holds Try.pinned (OpenSpec.ofChange keepWritesWrong)

/-- 'auspicelaw14.KeepReads': WHATEVER THE INPUT: true; the input reads as it did. -/
def keepReadsSpec : ChangeSpec := { name := "keepReads", fn := fun _ => fun
  | [d] => { results := [.lit (.bool true)], args := [d] }
  | _ => none }
def keepReadsRow : OpenClaim := { program := "ytcbafomhifdgpaa", sum := "df0676e072f8e193534d608b76c2cc5bb8c79deff2c4afb4a4688630f931550a", func := "auspice/auspicelaw14.KeepReads", spec := "keepReads", inPlace := ["internal/abi.NoEscape"], unfollowed := true, recurses := true, apart := false }
def KeepReadsSaid : Prop := keepReadsRow.holds Try.pinned (OpenSpec.ofChange keepReadsSpec)

/-- ITS FALSE NEIGHBOUR: 'it returns false'. Refute it at one input. -/
def keepReadsWrong : ChangeSpec := { name := "keepReads", fn := fun _ => fun
  | [d] => { results := [.lit (.bool false)], args := [d] }
  | _ => none }
def KeepReadsWrongFalsely : Prop := keepReadsRow.holds Try.pinned (OpenSpec.ofChange keepReadsWrong)

/-- 'auspicelaw14.KeepBack': WHATEVER THE INPUT: true; the input reads as it did. -/
def keepBackSpec : ChangeSpec := { name := "keepBack", fn := fun _ => fun
  | [d1, d2] => { results := [.lit (.bool true)], args := [d1, d2] }
  | _ => none }
def keepBackRow : OpenClaim := { program := "ytcbafomhifdgpaa", sum := "df0676e072f8e193534d608b76c2cc5bb8c79deff2c4afb4a4688630f931550a", func := "auspice/auspicelaw14.KeepBack", spec := "keepBack", inPlace := ["internal/abi.NoEscape"], unfollowed := true, recurses := true, apart := false }
def KeepBackSaid : Prop := keepBackRow.holds Try.pinned (OpenSpec.ofChange keepBackSpec)

/-- ITS FALSE NEIGHBOUR: 'it returns false'. Refute it at one input. -/
def keepBackWrong : ChangeSpec := { name := "keepBack", fn := fun _ => fun
  | [d1, d2] => { results := [.lit (.bool false)], args := [d1, d2] }
  | _ => none }
def KeepBackWrongFalsely : Prop := keepBackRow.holds Try.pinned (OpenSpec.ofChange keepBackWrong)

/-- 'auspicelaw17.SessOnce': WHATEVER THE INPUT: true; the input reads as it did. -/
def sessOnceSpec : ChangeSpec := { name := "sessOnce", fn := fun _ => fun
  | [d1, d2] => { results := [.lit (.bool true)], args := [d1, d2] }
  | _ => none }
def sessOnceRow : OpenClaim := { program := "ytcbafomhifdgpaa", sum := "df0676e072f8e193534d608b76c2cc5bb8c79deff2c4afb4a4688630f931550a", func := "auspice/auspicelaw17.SessOnce", spec := "sessOnce", inPlace := ["slices.overlaps[auspice/api.Session]", "internal/abi.NoEscape"], unfollowed := true, recurses := true, apart := false }
def SessOnceSaid : Prop := sessOnceRow.holds Try.pinned (OpenSpec.ofChange sessOnceSpec)

/-- ITS FALSE NEIGHBOUR: 'it returns false'. Refute it at one input. -/
def sessOnceWrong : ChangeSpec := { name := "sessOnce", fn := fun _ => fun
  | [d1, d2] => { results := [.lit (.bool false)], args := [d1, d2] }
  | _ => none }
def SessOnceWrongFalsely : Prop := sessOnceRow.holds Try.pinned (OpenSpec.ofChange sessOnceWrong)

/-- 'auspicelaw17.SessApart': WHATEVER THE INPUT: true; the input reads as it did. -/
def sessApartSpec : ChangeSpec := { name := "sessApart", fn := fun _ => fun
  | [d1, d2] => { results := [.lit (.bool true)], args := [d1, d2] }
  | _ => none }
def sessApartRow : OpenClaim := { program := "ytcbafomhifdgpaa", sum := "df0676e072f8e193534d608b76c2cc5bb8c79deff2c4afb4a4688630f931550a", func := "auspice/auspicelaw17.SessApart", spec := "sessApart", inPlace := ["slices.overlaps[auspice/api.Session]", "internal/abi.NoEscape"], unfollowed := true, recurses := true, apart := false }
def SessApartSaid : Prop := sessApartRow.holds Try.pinned (OpenSpec.ofChange sessApartSpec)

/-- ITS FALSE NEIGHBOUR: 'it returns false'. Refute it at one input. -/
def sessApartWrong : ChangeSpec := { name := "sessApart", fn := fun _ => fun
  | [d1, d2] => { results := [.lit (.bool false)], args := [d1, d2] }
  | _ => none }
def SessApartWrongFalsely : Prop := sessApartRow.holds Try.pinned (OpenSpec.ofChange sessApartWrong)

/-- 'auspicelaw17.SessFull': WHATEVER THE INPUT: true; the input reads as it did. -/
def sessFullSpec : ChangeSpec := { name := "sessFull", fn := fun _ => fun
  | [d1, d2] => { results := [.lit (.bool true)], args := [d1, d2] }
  | _ => none }
def sessFullRow : OpenClaim := { program := "ytcbafomhifdgpaa", sum := "df0676e072f8e193534d608b76c2cc5bb8c79deff2c4afb4a4688630f931550a", func := "auspice/auspicelaw17.SessFull", spec := "sessFull", inPlace := ["slices.overlaps[auspice/api.Session]", "internal/abi.NoEscape"], unfollowed := true, recurses := true, apart := false }
def SessFullSaid : Prop := sessFullRow.holds Try.pinned (OpenSpec.ofChange sessFullSpec)

/-- ITS FALSE NEIGHBOUR: 'it returns false'. Refute it at one input. -/
def sessFullWrong : ChangeSpec := { name := "sessFull", fn := fun _ => fun
  | [d1, d2] => { results := [.lit (.bool false)], args := [d1, d2] }
  | _ => none }
def SessFullWrongFalsely : Prop := sessFullRow.holds Try.pinned (OpenSpec.ofChange sessFullWrong)

/-- 'auspicelaw17.SessNil': WHATEVER THE INPUT: true; the input reads as it did. -/
def sessNilSpec : ChangeSpec := { name := "sessNil", fn := fun _ => fun
  | [d1, d2] => { results := [.lit (.bool true)], args := [d1, d2] }
  | _ => none }
def sessNilRow : OpenClaim := { program := "ytcbafomhifdgpaa", sum := "df0676e072f8e193534d608b76c2cc5bb8c79deff2c4afb4a4688630f931550a", func := "auspice/auspicelaw17.SessNil", spec := "sessNil", inPlace := ["slices.overlaps[auspice/api.Session]", "internal/abi.NoEscape"], unfollowed := true, recurses := true, apart := false }
def SessNilSaid : Prop := sessNilRow.holds Try.pinned (OpenSpec.ofChange sessNilSpec)

/-- ITS FALSE NEIGHBOUR: 'it returns false'. Refute it at one input. -/
def sessNilWrong : ChangeSpec := { name := "sessNil", fn := fun _ => fun
  | [d1, d2] => { results := [.lit (.bool false)], args := [d1, d2] }
  | _ => none }
def SessNilWrongFalsely : Prop := sessNilRow.holds Try.pinned (OpenSpec.ofChange sessNilWrong)

/-- 'auspicelaw17.SessReads': WHATEVER THE INPUT: true; the input reads as it did. -/
def sessReadsSpec : ChangeSpec := { name := "sessReads", fn := fun _ => fun
  | [d] => { results := [.lit (.bool true)], args := [d] }
  | _ => none }
def sessReadsRow : OpenClaim := { program := "ytcbafomhifdgpaa", sum := "df0676e072f8e193534d608b76c2cc5bb8c79deff2c4afb4a4688630f931550a", func := "auspice/auspicelaw17.SessReads", spec := "sessReads", inPlace := ["slices.overlaps[auspice/api.Session]", "internal/abi.NoEscape"], unfollowed := true, recurses := true, apart := false }
def SessReadsSaid : Prop := sessReadsRow.holds Try.pinned (OpenSpec.ofChange sessReadsSpec)

/-- ITS FALSE NEIGHBOUR: 'it returns false'. Refute it at one input. -/
def sessReadsWrong : ChangeSpec := { name := "sessReads", fn := fun _ => fun
  | [d] => { results := [.lit (.bool false)], args := [d] }
  | _ => none }
def SessReadsWrongFalsely : Prop := sessReadsRow.holds Try.pinned (OpenSpec.ofChange sessReadsWrong)

/-- 'auspicelaw17.SessPlays': WHATEVER THE INPUT: true; the input reads as it did. -/
def sessPlaysSpec : ChangeSpec := { name := "sessPlays", fn := fun _ => fun
  | [d] => { results := [.lit (.bool true)], args := [d] }
  | _ => none }
def sessPlaysRow : OpenClaim := { program := "ytcbafomhifdgpaa", sum := "df0676e072f8e193534d608b76c2cc5bb8c79deff2c4afb4a4688630f931550a", func := "auspice/auspicelaw17.SessPlays", spec := "sessPlays", inPlace := ["slices.overlaps[auspice/api.Session]", "internal/abi.NoEscape"], unfollowed := true, recurses := true, apart := false }
def SessPlaysSaid : Prop := sessPlaysRow.holds Try.pinned (OpenSpec.ofChange sessPlaysSpec)

/-- ITS FALSE NEIGHBOUR: 'it returns false'. Refute it at one input. -/
def sessPlaysWrong : ChangeSpec := { name := "sessPlays", fn := fun _ => fun
  | [d] => { results := [.lit (.bool false)], args := [d] }
  | _ => none }
def SessPlaysWrongFalsely : Prop := sessPlaysRow.holds Try.pinned (OpenSpec.ofChange sessPlaysWrong)

/- THE SECOND FORM. 'bulk': how many values and letters a reading holds, each counted each time it is reached (what is shared counts as often as it is met; a slice's spare places count too). A statement '..UptoSaid' is the law's where the arguments, and the package variables that the reading takes, are together of bulk at most 1048576: NARROWER than '..Said'. Prove '..Said' where nothing that the law and all that it calls make is longer than what came in: it says more and counts as full. Else prove '..UptoSaid'. A law counts once. -/
mutual
def uptoBulk {H : Type} : DataW H → Nat
  | .lit (.string bytes) => bytes.length + 1
  | .lit _ => 1
  | .nil => 1
  | .ptr d => uptoBulk d + 1
  | .slice elems spare => uptoBulkAll elems + uptoBulkAll spare + 1
  | .agg parts => uptoBulkAll parts + 1
  | .iface _ d => uptoBulk d + 1
  | .map entries => uptoBulkEntries entries + 1
  | .held _ => 1
def uptoBulkAll {H : Type} : List (DataW H) → Nat
  | [] => 0
  | d :: r => uptoBulk d + uptoBulkAll r
def uptoBulkEntries {H : Type} : List (Lit × DataW H) → Nat
  | [] => 0
  | x :: r => uptoBulkEntry x + uptoBulkEntries r
def uptoBulkEntry {H : Type} : Lit × DataW H → Nat
  | (.string bytes, d) => bytes.length + uptoBulk d + 1
  | (_, d) => uptoBulk d + 1
 end
def uptoSmall : (H : Type) → List (DataW H) → Bool := fun _ ds => decide (uptoBulkAll ds ≤ 1048576)
def OpenSpec.upto (s : _root_.Go.ChangeSpec) : _root_.Go.OpenSpec := { _root_.Go.OpenSpec.ofChange s with cond := some uptoSmall }

/-- 'auspicelaw14.KeepWrites', WHERE WHAT IT READS IS OF BULK AT MOST 1048576: true; the input reads as it did. -/
def keepWritesUptoRow : OpenClaim := { program := "ytcbafomhifdgpaa", sum := "df0676e072f8e193534d608b76c2cc5bb8c79deff2c4afb4a4688630f931550a", func := "auspice/auspicelaw14.KeepWrites", spec := "keepWrites", inPlace := ["internal/abi.NoEscape"], unfollowed := true, recurses := true, apart := false, narrowed := true }
def KeepWritesUptoSaid : Prop := keepWritesUptoRow.holds Try.pinned (OpenSpec.upto keepWritesSpec)

/-- 'auspicelaw14.KeepReads', WHERE WHAT IT READS IS OF BULK AT MOST 1048576: true; the input reads as it did. -/
def keepReadsUptoRow : OpenClaim := { program := "ytcbafomhifdgpaa", sum := "df0676e072f8e193534d608b76c2cc5bb8c79deff2c4afb4a4688630f931550a", func := "auspice/auspicelaw14.KeepReads", spec := "keepReads", inPlace := ["internal/abi.NoEscape"], unfollowed := true, recurses := true, apart := false, narrowed := true }
def KeepReadsUptoSaid : Prop := keepReadsUptoRow.holds Try.pinned (OpenSpec.upto keepReadsSpec)

/-- 'auspicelaw14.KeepBack', WHERE WHAT IT READS IS OF BULK AT MOST 1048576: true; the input reads as it did. -/
def keepBackUptoRow : OpenClaim := { program := "ytcbafomhifdgpaa", sum := "df0676e072f8e193534d608b76c2cc5bb8c79deff2c4afb4a4688630f931550a", func := "auspice/auspicelaw14.KeepBack", spec := "keepBack", inPlace := ["internal/abi.NoEscape"], unfollowed := true, recurses := true, apart := false, narrowed := true }
def KeepBackUptoSaid : Prop := keepBackUptoRow.holds Try.pinned (OpenSpec.upto keepBackSpec)

/-- 'auspicelaw17.SessOnce', WHERE WHAT IT READS IS OF BULK AT MOST 1048576: true; the input reads as it did. -/
def sessOnceUptoRow : OpenClaim := { program := "ytcbafomhifdgpaa", sum := "df0676e072f8e193534d608b76c2cc5bb8c79deff2c4afb4a4688630f931550a", func := "auspice/auspicelaw17.SessOnce", spec := "sessOnce", inPlace := ["slices.overlaps[auspice/api.Session]", "internal/abi.NoEscape"], unfollowed := true, recurses := true, apart := false, narrowed := true }
def SessOnceUptoSaid : Prop := sessOnceUptoRow.holds Try.pinned (OpenSpec.upto sessOnceSpec)

/-- 'auspicelaw17.SessApart', WHERE WHAT IT READS IS OF BULK AT MOST 1048576: true; the input reads as it did. -/
def sessApartUptoRow : OpenClaim := { program := "ytcbafomhifdgpaa", sum := "df0676e072f8e193534d608b76c2cc5bb8c79deff2c4afb4a4688630f931550a", func := "auspice/auspicelaw17.SessApart", spec := "sessApart", inPlace := ["slices.overlaps[auspice/api.Session]", "internal/abi.NoEscape"], unfollowed := true, recurses := true, apart := false, narrowed := true }
def SessApartUptoSaid : Prop := sessApartUptoRow.holds Try.pinned (OpenSpec.upto sessApartSpec)

/-- 'auspicelaw17.SessFull', WHERE WHAT IT READS IS OF BULK AT MOST 1048576: true; the input reads as it did. -/
def sessFullUptoRow : OpenClaim := { program := "ytcbafomhifdgpaa", sum := "df0676e072f8e193534d608b76c2cc5bb8c79deff2c4afb4a4688630f931550a", func := "auspice/auspicelaw17.SessFull", spec := "sessFull", inPlace := ["slices.overlaps[auspice/api.Session]", "internal/abi.NoEscape"], unfollowed := true, recurses := true, apart := false, narrowed := true }
def SessFullUptoSaid : Prop := sessFullUptoRow.holds Try.pinned (OpenSpec.upto sessFullSpec)

/-- 'auspicelaw17.SessNil', WHERE WHAT IT READS IS OF BULK AT MOST 1048576: true; the input reads as it did. -/
def sessNilUptoRow : OpenClaim := { program := "ytcbafomhifdgpaa", sum := "df0676e072f8e193534d608b76c2cc5bb8c79deff2c4afb4a4688630f931550a", func := "auspice/auspicelaw17.SessNil", spec := "sessNil", inPlace := ["slices.overlaps[auspice/api.Session]", "internal/abi.NoEscape"], unfollowed := true, recurses := true, apart := false, narrowed := true }
def SessNilUptoSaid : Prop := sessNilUptoRow.holds Try.pinned (OpenSpec.upto sessNilSpec)

/-- 'auspicelaw17.SessReads', WHERE WHAT IT READS IS OF BULK AT MOST 1048576: true; the input reads as it did. -/
def sessReadsUptoRow : OpenClaim := { program := "ytcbafomhifdgpaa", sum := "df0676e072f8e193534d608b76c2cc5bb8c79deff2c4afb4a4688630f931550a", func := "auspice/auspicelaw17.SessReads", spec := "sessReads", inPlace := ["slices.overlaps[auspice/api.Session]", "internal/abi.NoEscape"], unfollowed := true, recurses := true, apart := false, narrowed := true }
def SessReadsUptoSaid : Prop := sessReadsUptoRow.holds Try.pinned (OpenSpec.upto sessReadsSpec)

/-- 'auspicelaw17.SessPlays', WHERE WHAT IT READS IS OF BULK AT MOST 1048576: true; the input reads as it did. -/
def sessPlaysUptoRow : OpenClaim := { program := "ytcbafomhifdgpaa", sum := "df0676e072f8e193534d608b76c2cc5bb8c79deff2c4afb4a4688630f931550a", func := "auspice/auspicelaw17.SessPlays", spec := "sessPlays", inPlace := ["slices.overlaps[auspice/api.Session]", "internal/abi.NoEscape"], unfollowed := true, recurses := true, apart := false, narrowed := true }
def SessPlaysUptoSaid : Prop := sessPlaysUptoRow.holds Try.pinned (OpenSpec.upto sessPlaysSpec)

end Rows
end Go.Proofs.Ytcbafomhifdgpaa
