/- How arrays of whole numbers among the arguments read. -/
import Derived.Test.YtkgedgihjmhogaaOpen2
namespace Go.Proofs.Ytkgedgihjmhogaa.Open
open Go.ChangeShapes Go.WideShapes Go.Deep
set_option linter.unusedSimpArgs false
set_option linter.unusedVariables false
section
variable {H : Type} {enc : TypeId × Value → H} {P : Program} {w : World} {base : Nat} {spare : Nat → Bool} {held : Bool}
theorem open_int2 {t e : TypeId} {r : Reach} {b0 : Nat} {v : Value} {d : DataW H} {ps : List MemPlace} (ht : P.underlying t = some (.array 2 e)) (he : P.underlying e = some (.int .i64)) (hc : P.cellsOf e = 1) (hct : P.cellsOf t = 2)
    (hval : Value.okWide P w r b0 t v) (hd : DataW.Trod enc P w base spare held t v d ps) (hw : ∀ m ∈ d.weights P t, m ≤ reachBytes) :
    ∃ a : Int × Int, v = .agg #[.int .i64 a.1, .int .i64 a.2] ∧ True := by
  obtain ⟨l, rfl, hl, hq⟩ := open_arr (fun s : Int => Value.int .i64 s) (fun s => (Lit.int .i64 s).wf = true) ht hc hct (fun fuel cs x h hwx => by
    obtain ⟨s, rfl, rfl, h1⟩ := DataW.trod_int he h
    exact ⟨s, rfl, h1⟩) hval hd hw
  match l, hl with
  | [x, y], _ => exact ⟨(x, y), rfl, trivial⟩
theorem open_int7 {t e : TypeId} {r : Reach} {b0 : Nat} {v : Value} {d : DataW H} {ps : List MemPlace} (ht : P.underlying t = some (.array 7 e)) (he : P.underlying e = some (.int .i64)) (hc : P.cellsOf e = 1) (hct : P.cellsOf t = 7)
    (hval : Value.okWide P w r b0 t v) (hd : DataW.Trod enc P w base spare held t v d ps) (hw : ∀ m ∈ d.weights P t, m ≤ reachBytes) :
    ∃ f : Nat → Int, v = .agg #[.int .i64 (f 0), .int .i64 (f 1), .int .i64 (f 2), .int .i64 (f 3), .int .i64 (f 4), .int .i64 (f 5), .int .i64 (f 6)] ∧ ∀ i, i < 7 → (Lit.int .i64 (f i)).wf = true := by
  obtain ⟨l, rfl, hl, hq⟩ := open_arr (fun s : Int => Value.int .i64 s) (fun s => (Lit.int .i64 s).wf = true) ht hc hct (fun fuel cs x h hwx => by
    obtain ⟨s, rfl, rfl, h1⟩ := DataW.trod_int he h
    exact ⟨s, rfl, h1⟩) hval hd hw
  match l, hl with
  | [a, b, c, d, e, g, h], _ =>
    refine ⟨fun i => [a, b, c, d, e, g, h].getD i 0, rfl, fun i hi => ?_⟩
    rcases (by omega : i = 0 ∨ i = 1 ∨ i = 2 ∨ i = 3 ∨ i = 4 ∨ i = 5 ∨ i = 6) with rfl | rfl | rfl | rfl | rfl | rfl | rfl
    all_goals exact hq _ (by simp)
end
end Go.Proofs.Ytkgedgihjmhogaa.Open
