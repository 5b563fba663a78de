/- The least and the most of some real numbers: plain facts. -/
import Derived.Test.YtobifcffgkagbaaFl
namespace Go.Proofs.Ytobifcffgkagbaa.Fl
set_option linter.unusedSimpArgs false
set_option linter.unusedVariables false

structure EndsS where
  x : Nat
  y : Nat
  n : Nat
structure EndsR where
  a : Int
  b : Int
  n : Nat
def nextS (f : Nat) (s : EndsS) : EndsS := if nanB f then s else
  { x := if s.n = 0 ∨ rankB f < rankB s.x then f else s.x, y := if s.n = 0 ∨ rankB s.y < rankB f then f else s.y, n := s.n + 1 }
def nextR (l : List Nat) (k : Nat) (s : EndsR) : EndsR := if nanB (l.getD k 0) then s else
  { a := if s.a < 0 ∨ rankB (l.getD k 0) < rankB (l.getD s.a.toNat 0) then k else s.a, b := if s.b < 0 ∨ rankB (l.getD s.b.toNat 0) < rankB (l.getD k 0) then k else s.b, n := s.n + 1 }
def endsS (l : List Nat) : Nat → EndsS
  | 0 => ⟨0, 0, 0⟩
  | k + 1 => nextS (l.getD k 0) (endsS l k)
def endsR (l : List Nat) : Nat → EndsR
  | 0 => ⟨-1, -1, 0⟩
  | k + 1 => nextR l k (endsR l k)

def Tied (l : List Nat) (k : Nat) (s : EndsS) (r : EndsR) : Prop :=
  s.n = r.n ∧ s.n ≤ k ∧ (s.n = 0 ∧ r.a = -1 ∧ r.b = -1 ∧ s.x = 0 ∧ s.y = 0 ∨ 0 < s.n ∧ 0 ≤ r.a ∧ r.a < k ∧ 0 ≤ r.b ∧ r.b < k ∧ s.x = l.getD r.a.toNat 0 ∧ s.y = l.getD r.b.toNat 0)

theorem tied (l : List Nat) : ∀ k, Tied l k (endsS l k) (endsR l k)
  | 0 => ⟨rfl, Nat.le_refl _, .inl ⟨rfl, rfl, rfl, rfl, rfl⟩⟩
  | k + 1 => by
    have ih := tied l k
    obtain ⟨h1, h2, h3⟩ := ih
    unfold endsS endsR
    generalize endsS l k = s at *
    generalize endsR l k = r at *
    unfold nextS nextR
    cases hn : nanB (l.getD k 0)
    · simp only [Bool.false_eq_true, if_false]
      refine ⟨by simp [h1], by simp; omega, .inr ⟨by simp, ?_⟩⟩
      rcases h3 with ⟨g0, g1, g2, g3, g4⟩ | ⟨g0, g1, g2, g3, g4, g5, g6⟩
      · have ga : r.a < 0 := by omega
        have gb : r.b < 0 := by omega
        simp [g0, ga, gb]
        omega
      · have ga : ¬ r.a < 0 := by omega
        have gb : ¬ r.b < 0 := by omega
        have gs : ¬ s.n = 0 := by omega
        simp only [gs, ga, gb, false_or, g5, g6]
        refine ⟨?_, ?_, ?_, ?_, ?_, ?_⟩
        · split <;> omega
        · split <;> omega
        · split <;> omega
        · split <;> omega
        · by_cases c : rankB (l.getD k 0) < rankB (l.getD r.a.toNat 0)
          · simp only [c, if_true]; simp
          · simp only [c, if_false]
        · by_cases c : rankB (l.getD r.b.toNat 0) < rankB (l.getD k 0)
          · simp only [c, if_true]; simp
          · simp only [c, if_false]
    · simp only [if_true]
      refine ⟨h1, by omega, ?_⟩
      rcases h3 with h | ⟨g0, g1, g2, g3, g4, g5, g6⟩
      · exact .inl h
      · exact .inr ⟨g0, g1, by omega, g3, by omega, g5, g6⟩
end Go.Proofs.Ytobifcffgkagbaa.Fl
