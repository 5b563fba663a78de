/- How slices among the arguments read: cell by cell. -/
import Derived.WalkKit
import Derived.ProofKit
import Derived.Deep.Slices
import Derived.Laws.Cover2
namespace Go.Proofs.Ytgmenlfhkhdbdaa.Open
open Go.ChangeShapes Go.WideShapes Go.Deep
set_option linter.unusedSimpArgs false
set_option linter.unusedVariables false

section
variable {H : Type} {enc : TypeId × Value → H} {P : Program} {w : World} {base : Nat} {spare : Nat → Bool} {held : Bool}

theorem trod_float {fuel : Nat} {t : TypeId} {k : FloatKind} {cs : List Value} {x : DataW H × List MemPlace} (ht : P.underlying t = some (.float k)) (h : DataW.trod enc P w base spare held fuel t cs = some x) :
    ∃ b, cs = [.float k b] ∧ (Lit.float k b).wf = true := by
  cases fuel with
  | zero => simp [DataW.trod] at h
  | succ n =>
    match cs, h with
    | [.float k' b], h =>
      simp only [DataW.trod, ht] at h
      by_cases hw : k' = k ∧ (Lit.float k b).wf = true
      · obtain ⟨rfl, hw⟩ := hw; exact ⟨b, rfl, hw⟩
      · rw [if_neg hw] at h; cases h
    | [], h => simp [DataW.trod, ht] at h
    | .bool _ :: l, h => cases l <;> simp [DataW.trod, ht] at h
    | .int _ _ :: l, h => cases l <;> simp [DataW.trod, ht] at h
    | .string _ :: l, h => cases l <;> simp [DataW.trod, ht] at h
    | .float _ _ :: _ :: l, h => simp [DataW.trod, ht] at h
    | .complex _ _ _ :: l, h => cases l <;> simp [DataW.trod, ht] at h
    | .pointer _ :: l, h => cases l <;> simp [DataW.trod, ht] at h
    | .slice _ _ _ :: l, h => cases l <;> simp [DataW.trod, ht] at h
    | .map _ :: l, h => cases l <;> simp [DataW.trod, ht] at h
    | .chan _ :: l, h => cases l <;> simp [DataW.trod, ht] at h
    | .nilFunc :: l, h => cases l <;> simp [DataW.trod, ht] at h
    | .func _ _ _ :: l, h => cases l <;> simp [DataW.trod, ht] at h
    | .nilIface :: l, h => cases l <;> simp [DataW.trod, ht] at h
    | .iface _ _ :: l, h => cases l <;> simp [DataW.trod, ht] at h
    | .agg _ :: l, h => cases l <;> simp [DataW.trod, ht] at h
    | .tuple _ :: l, h => cases l <;> simp [DataW.trod, ht] at h

/-- A value that is a slice of one-cell elements: its elements, read at the front of the slice. -/
def Row1 (w : World) (v : Value) (l : List Value) : Prop :=
  ∃ (a : Option Addr) (cap : Nat), v = .slice a l.length cap ∧ l.length ≤ cap ∧ cap ≤ maxLen ∧ (a = none → l = [] ∧ cap = 0) ∧
    (l ≠ [] → ∃ b off, a = some ⟨b, off, none⟩) ∧ ∀ b off, a = some ⟨b, off, none⟩ → ∀ k (h : k < l.length), w.cell? ⟨b, off + k, none⟩ = some l[k]

theorem choose_row {m : Nat} {α : Type} (p : Nat → α → Prop) (h : ∀ i, i < m → ∃ a, p i a) : ∃ l : List α, l.length = m ∧ ∀ i (hi : i < l.length), p i l[i] := by
  induction m with
  | zero => exact ⟨[], rfl, fun i hi => absurd hi (by simp)⟩
  | succ m ih =>
    obtain ⟨l, hl, hp⟩ := ih (fun i hi => h i (by omega))
    obtain ⟨a, ha⟩ := h m (by omega)
    refine ⟨l ++ [a], by simp [hl], fun i hi => ?_⟩
    by_cases hm : i < l.length
    · rw [List.getElem_append_left hm]; exact hp i hm
    · have : i = l.length := by simp at hi; omega
      subst this
      simp [hl, ha]

theorem open_row {t e : TypeId} {r : Reach} {b0 : Nat} {v : Value} {d : DataW H} {ps : List MemPlace} {α : Type} (f : α → Value) (Q : α → Prop)
    (ht : P.underlying t = some (.slice e)) (hc : P.cellsOf e = 1) (hel : ∀ fuel cs x, DataW.trod enc P w base (fun _ => true) true fuel e cs = some x → ∃ a, cs = [f a] ∧ Q a)
    (hval : Value.okWide P w r b0 t v) (hd : DataW.Trod enc P w base (fun _ => true) true t v d ps) :
    ∃ l : List α, Row1 w v (l.map f) ∧ ∀ a ∈ l, Q a := by
  obtain ⟨a0, len, cap, rfl⟩ := okWide_slice ht hval
  obtain ⟨fuel, hf⟩ := hd
  rcases open_slice1 ht hc hf with ⟨hcs, _⟩ | ⟨x, l, c, m, n, V, D, Pl, hcs, _, hl, hm, hmm, _, hx⟩
  · simp [Value.cells] at hcs
    obtain ⟨rfl, rfl, rfl⟩ := hcs
    exact ⟨[], ⟨none, 0, rfl, by simp, by simp, fun _ => ⟨rfl, rfl⟩, fun h => absurd rfl h, fun b off h => by cases h⟩, by simp⟩
  · simp [Value.cells] at hcs
    obtain ⟨rfl, rfl, rfl⟩ := hcs
    simp only [if_true] at hmm
    obtain ⟨L, hL, hp⟩ := choose_row (m := len) (fun i a => V i = f a ∧ Q a) (fun i hi => by
      obtain ⟨h1, h2⟩ := hx i (by omega)
      obtain ⟨a, h3, h4⟩ := hel _ _ _ h2
      exact ⟨a, by simpa using h3, h4⟩)
    refine ⟨L, ⟨some x, cap, by simp [hL], by simpa [hL] using hl, hm, fun h => (by cases h), ?_, ?_⟩, ?_⟩
    · intro hne
      have h0 : 0 < len := by
        rw [← hL]; exact List.length_pos_iff.2 (by intro h; apply hne; rw [h]; rfl)
      have hc0 := (hx 0 (by omega)).1
      obtain ⟨b, off, spot⟩ := x
      have hspot : spot = none := by simpa [Addr.add] using World.cell?_spot hc0
      subst hspot
      exact ⟨b, off, rfl⟩
    · rintro b off h k hk
      injection h with h
      subst h
      have hk' : k < len := by simpa [hL] using hk
      have hc0 := (hx k (by omega)).1
      rw [Go.WideShapes.add_plain] at hc0
      rw [hc0, List.getElem_map, (hp k (by omega)).1]
    · intro a ha
      obtain ⟨i, hi, rfl⟩ := List.getElem_of_mem ha
      exact (hp i hi).2

theorem open_floats {t e : TypeId} {r : Reach} {b0 : Nat} {v : Value} {d : DataW H} {ps : List MemPlace} (ht : P.underlying t = some (.slice e)) (he : P.underlying e = some (.float .f64)) (hc : P.cellsOf e = 1)
    (hval : Value.okWide P w r b0 t v) (hd : DataW.Trod enc P w base (fun _ => true) true t v d ps) :
    ∃ a : Value, v = a ∧ ∃ l : List Nat, Row1 w a (l.map (Value.float .f64)) ∧ ∀ x ∈ l, (Lit.float .f64 x).wf = true :=
  ⟨v, rfl, open_row (Value.float .f64) (fun x => (Lit.float .f64 x).wf = true) ht hc (fun fuel cs x h => trod_float he h) hval hd⟩
end
end Go.Proofs.Ytgmenlfhkhdbdaa.Open
