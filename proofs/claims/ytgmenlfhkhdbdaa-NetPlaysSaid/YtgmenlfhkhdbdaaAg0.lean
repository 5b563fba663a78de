/- The methods of a pointer to a pile, as an interface's value finds them (355: the seat's number of types and 100). -/
import Derived.Test.YtgmenlfhkhdbdaaProg
import Derived.WalkKit
import Derived.KernelRfl
import Derived.ChangeKeysEq
namespace Go.Proofs.Ytgmenlfhkhdbdaa.Ag
open Go.RowKit
set_option linter.unusedSimpArgs false
set_option maxRecDepth 100000
set_option linter.unusedVariables false
theorem method_facts {P : Program} {t : TypeId} {name : String} {f : FuncId} {b : Bool} (h : ((P.info? t).bind fun i => (i.methods.find? (·.name == name)).map fun m => (m.path, m.func)) = some (#[], some (f, b))) :
    ∃ i m, P.info? t = some i ∧ i.methods.find? (·.name == name) = some m ∧ m.path = #[] ∧ m.func = some (f, b) := by
  cases hi : P.info? t with
  | none => rw [hi] at h; cases h
  | some i =>
    rw [hi] at h
    cases hm : i.methods.find? (·.name == name) with
    | none => simp [hm] at h
    | some m =>
      simp [hm] at h
      exact ⟨i, m, rfl, hm, h.1, h.2⟩
theorem method_val {P : Program} {t e : TypeId} {name : String} {f : FuncId} {w : World} {p : Addr} {v : Value} (h : ((P.info? t).bind fun i => (i.methods.find? (·.name == name)).map fun m => (m.path, m.func)) = some (#[], some (f, false)))
    (hu : (underlying t).run P w = .ok (.pointer e) w) (hl : (loadVar e p).run P w = .ok v w) :
    (method (P.types.size + 100) t (.pointer (some p)) name).run P w = .ok (f, v) w := by
  obtain ⟨i, m, hi, hm, hp, hf⟩ := method_facts h
  have ht := run_typeInfo (P := P) (w := w) hi
  have hw : ∀ m : String, (Builtin.ssaWrapNilChk_ #[t] t #[.pointer (some p), strVal "", strVal m]).run P w = .ok (.pointer (some p)) w := fun m => rfl
  have ha : (asAddr (.pointer (some p))).run P w = .ok p w := rfl
  rw [show P.types.size + 100 = (P.types.size + 99) + 1 from rfl, method]
  simp only [Sem.run_bind, ht, Result.andThen_ok, hm, hp, hf, follow, Sem.run_pure, receiverAt, hu, Place.get, hw, ha, hl, Array.isEmpty, Array.size_empty, decide_true, if_true, List.toList_toArray]
theorem method_ptr {P : Program} {t e : TypeId} {name : String} {f : FuncId} {w : World} {p : Addr} (h : ((P.info? t).bind fun i => (i.methods.find? (·.name == name)).map fun m => (m.path, m.func)) = some (#[], some (f, true)))
    (hu : (underlying t).run P w = .ok (.pointer e) w) :
    (method (P.types.size + 100) t (.pointer (some p)) name).run P w = .ok (f, .pointer (some p)) w := by
  obtain ⟨i, m, hi, hm, hp, hf⟩ := method_facts h
  have ht := run_typeInfo (P := P) (w := w) hi
  rw [show P.types.size + 100 = (P.types.size + 99) + 1 from rfl, method]
  simp only [Sem.run_bind, ht, Result.andThen_ok, hm, hp, hf, follow, Sem.run_pure, receiverAt, hu, Place.get]
section
variable (w : World) (p : Addr)
theorem m_push : (method 355 155 (.pointer (some p)) "Push").run Try.prog w = .ok (207, .pointer (some p)) w :=
  method_ptr (e := 152) (by kernel_rfl) (by kernel_rfl)
theorem m_pop : (method 355 155 (.pointer (some p)) "Pop").run Try.prog w = .ok (206, .pointer (some p)) w :=
  method_ptr (e := 152) (by kernel_rfl) (by kernel_rfl)
variable {v : Value} (hc : w.cell? p = some v)
include hc
theorem lv : (loadVar 152 p).run Try.prog w = .ok v w := by
  simp [go_sem, loadVar, hc]
theorem m_len : (method 355 155 (.pointer (some p)) "Len").run Try.prog w = .ok (203, v) w :=
  method_val (e := 152) (by kernel_rfl) (by kernel_rfl) (lv w p hc)
theorem m_less : (method 355 155 (.pointer (some p)) "Less").run Try.prog w = .ok (204, v) w :=
  method_val (e := 152) (by kernel_rfl) (by kernel_rfl) (lv w p hc)
theorem m_swap : (method 355 155 (.pointer (some p)) "Swap").run Try.prog w = .ok (205, v) w :=
  method_val (e := 152) (by kernel_rfl) (by kernel_rfl) (lv w p hc)
end
end Go.Proofs.Ytgmenlfhkhdbdaa.Ag
