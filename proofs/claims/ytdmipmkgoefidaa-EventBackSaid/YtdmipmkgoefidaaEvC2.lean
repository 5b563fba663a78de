/- Events' fields in memory; the contract of the reference's 'may'; of Check. -/
import Derived.Test.YtdmipmkgoefidaaEvC1
import Derived.Test.YtdmipmkgoefidaaRd
namespace Go.Proofs.Ytdmipmkgoefidaa.Ev
open Go.RowKit Mem Bits EvH
set_option linter.unusedSimpArgs false
set_option linter.unusedVariables false
set_option maxRecDepth 100000

set_option maxHeartbeats 2000000 in
theorem refmay_calls (k n : Int) (f : Nat) (s : ByteArray) (hs : s.size ≤ 140737488355328) (w : World) :
    Calls Try.prog 29 #[valV k n f s] w fun e w' => e = .returned (.bool (mayB k n f s)) ∧ Mod w w' [] := by
  have hs' : (s.size : Int) ≤ 140737488355328 := by omega
  by_cases h1 : k < 1
  · have e : mayB k n f s = false := by unfold mayB; rw [if_neg (by omega), if_neg (by omega), if_neg (by omega)]
    rw [e]
    clear e
    go_enter Try.func29, Try.ntmps29
    go_wp2_with fail
    go_ret
    exact ⟨rfl, (Mod.refl _ _).alloc _⟩
  by_cases h2 : 3 < k
  · have e : mayB k n f s = false := by unfold mayB; rw [if_neg (by omega), if_neg (by omega), if_neg (by omega)]
    rw [e]
    have h1' : 1 ≤ k := by omega
    clear e h1
    go_enter Try.func29, Try.ntmps29
    go_wp2_with fail
    go_ret
    exact ⟨rfl, (Mod.refl _ _).alloc _⟩
  have hk : k = 1 ∨ k = 2 ∨ k = 3 := by omega
  by_cases h3 : 64 < s.size
  · have e : mayB k n f s = false := by
      rcases hk with rfl | rfl | rfl
      · show (((f : Int) == 0) && decide (s.size = 0)) = false
        rw [decide_eq_false (by omega), Bool.and_false]
      · show ((n == 0) && decide (s.size = 0)) = false
        rw [decide_eq_false (by omega), Bool.and_false]
      · show ((n == 0) && (((f : Int) == 0) && decide (s.size ≤ 64))) = false
        rw [decide_eq_false (by omega), Bool.and_false, Bool.and_false]
    rw [e]
    have h1' : 1 ≤ k := by omega
    have h2' : k ≤ 3 := by omega
    have h3' : 64 < (s.size : Int) := by omega
    clear e h1 h2 hk h3
    go_enter Try.func29, Try.ntmps29
    go_wp2_with fail
    go_ret
    exact ⟨rfl, (Mod.refl _ _).alloc _⟩
  have h3' : (s.size : Int) ≤ 64 := by omega
  have hr : mayB k n f s = if k = 1 then ((f : Int) == 0) && decide (s.size = 0) else if k = 2 then (n == 0) && decide (s.size = 0) else if k = 3 then (n == 0) && (((f : Int) == 0) && decide (s.size ≤ 64)) else false := rfl
  rw [hr, decide_eq_true (by omega : s.size ≤ 64)]
  clear hr h1 h2 h3
  rcases str_zero s with ⟨_, z1, z2, z3⟩ | ⟨_, z1, z2, z3⟩ <;> rw [z3] <;> cases zf : ((f : Int) == 0) <;> cases zn : (n == 0) <;> rcases hk with rfl | rfl | rfl
  all_goals
    simp only [Int.reduceEq, if_true, if_false, Bool.and_true, Bool.and_false, Bool.true_and, Bool.false_and, Bool.and_self]
    go_enter Try.func29, Try.ntmps29
    go_wp2_with fail
    go_ret
    exact ⟨rfl, (Mod.refl _ _).alloc _⟩

theorem cell_lt {w : World} {p : Addr} {v : Value} (h : w.cell? p = some v) : p.block < w.heap.size := by
  by_cases hg : p.block < w.heap.size
  · exact hg
  · exfalso
    simp [World.cell?, Array.getElem?_eq_none (by omega : w.heap.size ≤ p.block)] at h

structure Val where
  k : Int
  n : Int
  f : Nat
  s : ByteArray
structure Fld where
  name : ByteArray
  v : Val
abbrev fldC (x : Fld) : List Value := [.string x.name, .int .i64 x.v.k, .int .i64 x.v.n, .float .f64 x.v.f, .string x.v.s]
structure FldOK (x : Fld) : Prop where
  name : x.name.size ≤ 140737488351232
  k1 : -9223372036854775808 ≤ x.v.k
  k2 : x.v.k ≤ 9223372036854775807
  n1 : -9223372036854775808 ≤ x.v.n
  n2 : x.v.n ≤ 9223372036854775807
  f : x.v.f < 18446744073709551616
  s : x.v.s.size ≤ 140737488351232

/-- The fields lie in block b, from off on. -/
structure Cells5 (w : World) (b o : Nat) (x : Fld) : Prop where
  c0 : w.cell? ⟨b, o, none⟩ = some (.string x.name)
  c1 : w.cell? ⟨b, o + 1, none⟩ = some (.int .i64 x.v.k)
  c2 : w.cell? ⟨b, o + 2, none⟩ = some (.int .i64 x.v.n)
  c3 : w.cell? ⟨b, o + 3, none⟩ = some (.float .f64 x.v.f)
  c4 : w.cell? ⟨b, o + 4, none⟩ = some (.string x.v.s)
def RowF (w : World) (b off : Nat) (l : List Fld) : Prop := ∀ i (hi : i < l.length), Cells5 w b (off + i * 5) l[i]
theorem Cells5.mod {w w' : World} {b o : Nat} {x : Fld} (h : Cells5 w b o x) (m : Mod w w' []) : Cells5 w' b o x := by
  have hl := cell_lt h.c0
  exact ⟨(m.cell (p := ⟨b, o, none⟩) hl (by simp)).trans h.c0, (m.cell (p := ⟨b, o + 1, none⟩) hl (by simp)).trans h.c1, (m.cell (p := ⟨b, o + 2, none⟩) hl (by simp)).trans h.c2, (m.cell (p := ⟨b, o + 3, none⟩) hl (by simp)).trans h.c3, (m.cell (p := ⟨b, o + 4, none⟩) hl (by simp)).trans h.c4⟩
theorem RowF.mod {w w' : World} {b off : Nat} {l : List Fld} (h : RowF w b off l) (m : Mod w w' []) : RowF w' b off l := fun i hi => (h i hi).mod m

/-- The value of a slice of fields. -/
def FldsAt (w : World) (v : Value) (l : List Fld) : Prop :=
  (l = [] ∧ ∃ a cap, v = .slice a 0 cap) ∨ ∃ b off cap, v = .slice (some ⟨b, off, none⟩) l.length cap ∧ l.length ≤ cap ∧ RowF w b off l
theorem FldsAt.mod {w w' : World} {v : Value} {l : List Fld} (h : FldsAt w v l) (m : Mod w w' []) : FldsAt w' v l := by
  rcases h with h | ⟨b, off, cap, h1, h2, h3⟩
  · exact .inl h
  · exact .inr ⟨b, off, cap, h1, h2, h3.mod m⟩
theorem flds_of {w : World} {v : Value} {l : List Fld} (h : Open.RowN w v 5 (l.map fldC)) : FldsAt w v l := by
  obtain ⟨a, cap, rfl, h1, h2, h3, h4, h5⟩ := h
  rw [List.length_map] at *
  by_cases hl : l = []
  · subst hl; exact .inl ⟨rfl, a, cap, rfl⟩
  · obtain ⟨b, off, rfl⟩ := h4 (by simpa using hl) (by omega)
    refine .inr ⟨b, off, cap, rfl, h1, fun i hi => ?_⟩
    have h := fun c hc => (h5 b off rfl i (by simpa using hi) c hc).1
    simp only [List.getElem_map] at h
    exact ⟨h 0 (by omega), h 1 (by omega), h 2 (by omega), h 3 (by omega), h 4 (by omega)⟩

abbrev evV (a b c : Int) (k : ByteArray) (sl : Value) : Value := .agg #[.int .i64 a, .int .i64 b, .int .i64 c, .string k, sl]

def inB (n : Int) : Bool := decide (0 ≤ n ∧ n ≤ 549755813888)
theorem in_cases (n : Int) : (n < 0 ∧ inB n = false) ∨ (0 ≤ n ∧ 549755813888 < n ∧ inB n = false) ∨ (0 ≤ n ∧ n ≤ 549755813888 ∧ inB n = true) := by
  unfold inB
  by_cases h : n < 0
  · left; exact ⟨h, decide_eq_false (by omega)⟩
  · by_cases h2 : 549755813888 < n
    · right; left; exact ⟨by omega, h2, decide_eq_false (by omega)⟩
    · right; right; exact ⟨by omega, by omega, decide_eq_true (by omega)⟩
instance : Inhabited Fld := ⟨⟨⟨#[]⟩, ⟨0, 0, 0, ⟨#[]⟩⟩⟩⟩
def lessB (a b : ByteArray) : Bool := Op.bytesLess a.toList b.toList
def goodF (l : List Fld) (i : Nat) : Bool := wordB (l[i]!).name && (mayB (l[i]!).v.k (l[i]!).v.n (l[i]!).v.f (l[i]!).v.s && (decide (i = 0) || lessB (l[i - 1]!).name (l[i]!).name))
def fieldsB (l : List Fld) : Bool := (List.range l.length).all (goodF l)
/-- May an event be? -/
def checkB (a b c : Int) (k : ByteArray) (l : List Fld) : Bool := inB a && (inB b && (inB c && (wordB k && (decide (l.length ≤ 8) && fieldsB l))))
def checkR (a b c : Int) (k : ByteArray) (l : List Fld) : Int := if checkB a b c k l then 0 else 1
theorem checkR_bad {a b c : Int} {k : ByteArray} {l : List Fld} (h : checkB a b c k l = false) : checkR a b c k l = 1 := by unfold checkR; rw [h]; rfl
theorem checkR_good {a b c : Int} {k : ByteArray} {l : List Fld} (h : checkB a b c k l = true) : checkR a b c k l = 0 := by unfold checkR; rw [h]; rfl
theorem fields_bad (l : List Fld) (i : Nat) (hi : i < l.length) (h : goodF l i = false) : fieldsB l = false := by
  unfold fieldsB
  rw [List.all_eq_false]
  exact ⟨i, List.mem_range.2 hi, by rw [h]; simp⟩
theorem fields_good (l : List Fld) (h : ∀ i, i < l.length → goodF l i = true) : fieldsB l = true := by
  unfold fieldsB
  rw [List.all_eq_true]
  intro i hi
  exact h i (List.mem_range.1 hi)
end Go.Proofs.Ytdmipmkgoefidaa.Ev
