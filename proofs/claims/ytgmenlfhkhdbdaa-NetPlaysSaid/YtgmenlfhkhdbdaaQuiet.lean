/- A region that draws its order, whose operations only read and whose callees may lay new memory, walked once. -/
import Derived.Test.YtgmenlfhkhdbdaaMem
import Derived.Deep.QuietTactic
import Derived.BigQuiet
namespace Go.Proofs.Ytgmenlfhkhdbdaa.Mem
open Go.RowKit

theorem run_store_float {P : Program} {w : World} {a : Addr} {m : Mode} (k : FloatKind) (x : Nat) : (store a (.float k x) m).run P w = stored P w a (.float k x) m := run_store P w a _ m rfl
attribute [go_sem] run_store_float
/-- A world that follows w: only new memory has come. -/
structure After (w : World) where
  world : World
  mod : Mod w world []

instance (w : World) : Inhabited (After w) := ⟨⟨w, Mod.refl _ _⟩⟩

theorem wp_region_quiet_after {P : Program} {id : Nat} {Q : Exit → Act → World → Prop} {a : Act} {w : World} {l : List Oper} (hm : P.follows .mixedOrders = true) (hB : Region.lexB .any l.toArray = true)
    (h : wpQuiet P l.toArray (fun w' => ∃ p : After w, w' = p.world) (fun a' => ∀ w', (∃ p : After w, w' = p.world) → Q .normal a' w') l a) : (Code.region id l.toArray true).wp P Q a w :=
  wp_region_quiet (C := fun w' => ∃ p : After w, w' = p.world) hm hB ⟨⟨w.drew, (Mod.refl _ _).drew⟩, rfl⟩ (by simpa using h)

theorem after_of {P : Program} {f : FuncId} {args : Array Value} {w : World} {p : After w} {v : Value}
    (h : Calls P f args p.world fun e w' => e = .returned v ∧ Mod p.world w' []) : Calls P f args p.world fun e w'' => e = .returned v ∧ ∃ q : After w, w'' = q.world :=
  h.mono fun _ w' ⟨he, hq⟩ => ⟨he, ⟨w', p.mod.trans0 hq⟩, rfl⟩
theorem after_same {P : Program} {f : FuncId} {args : Array Value} {w : World} {p : After w} {v : Value}
    (h : Calls P f args p.world fun e w' => e = .returned v ∧ p.world = w') : Calls P f args p.world fun e w'' => e = .returned v ∧ ∃ q : After w, w'' = q.world :=
  h.mono fun _ _ ⟨he, hq⟩ => ⟨he, p, hq.symm⟩
theorem cell_after {w : World} {a : Addr} {v : Value} (hb : a.block < w.heap.size) (h : w.cell? a = some v) (p : After w) : p.world.cell? a = some v := by
  rw [p.mod.cell hb (by simp)]; exact h

end Go.Proofs.Ytgmenlfhkhdbdaa.Mem
