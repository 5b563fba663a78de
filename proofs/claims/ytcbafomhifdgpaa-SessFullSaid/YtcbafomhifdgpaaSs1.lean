/- Tables of sessions: what they are; the search. -/
import Derived.Test.YtcbafomhifdgpaaSi4
namespace Go.Proofs.Ytcbafomhifdgpaa.Ss
open Go.RowKit Mem Si
set_option linter.unusedSimpArgs false
set_option linter.unusedVariables false
set_option maxRecDepth 100000

/-- A session: its ID and the number of its last event. -/
abbrev Sn := Int × Int
def rowC (s : Sn) : List Value := [.int .i64 s.1, .int .i64 s.2]
def rowsC (l : List Sn) : List Value := (l.map rowC).flatten
theorem rowC_len (s : Sn) : (rowC s).length = 2 := rfl
theorem rows_two (l : List Sn) : ∀ r ∈ l.map rowC, r.length = 2 := by
  intro r hr
  simp only [List.mem_map] at hr
  obtain ⟨s, _, rfl⟩ := hr
  rfl
theorem rowsC_len (l : List Sn) : (rowsC l).length = l.length * 2 := by
  unfold rowsC
  rw [Rw.flat_len (n := 2) _ (rows_two l), List.length_map]
theorem rowsC_get (l : List Sn) (i : Nat) (hi : i < l.length) : (rowsC l)[i * 2]? = some (.int .i64 l[i].1) ∧ (rowsC l)[i * 2 + 1]? = some (.int .i64 l[i].2) := by
  unfold rowsC
  have h := rows_two l
  have h0 := Rw.flat_get (l.map rowC) i 0 h (by simpa using hi) (by omega)
  have h1 := Rw.flat_get (l.map rowC) i 1 h (by simpa using hi) (by omega)
  simp only [List.getElem_map, Nat.add_zero] at h0 h1
  exact ⟨by rw [h0]; rfl, by rw [h1]; rfl⟩
theorem rowsC_one (l : List Sn) : ∀ u ∈ rowsC l, u.oneCell' = true := by
  intro u hu
  simp only [rowsC, List.mem_flatten, List.mem_map] at hu
  obtain ⟨r, ⟨s, _, rfl⟩, h⟩ := hu
  simp only [rowC, List.mem_cons, List.not_mem_nil, or_false] at h
  rcases h with rfl | rfl <;> rfl
theorem rowsC_append (a b : List Sn) : rowsC (a ++ b) = rowsC a ++ rowsC b := by simp [rowsC]
theorem rowsC_take (l : List Sn) (i : Nat) (hi : i ≤ l.length) : (rowsC l).take (i * 2) = rowsC (l.take i) := by
  have h := rowsC_append (l.take i) (l.drop i)
  rw [List.take_append_drop] at h
  have hl := rowsC_len (l.take i)
  rw [List.length_take, Nat.min_eq_left hi] at hl
  rw [h, ← hl, List.take_left]
theorem rowsC_drop (l : List Sn) (i : Nat) (hi : i ≤ l.length) : (rowsC l).drop (i * 2) = rowsC (l.drop i) := by
  have h := rowsC_append (l.take i) (l.drop i)
  rw [List.take_append_drop] at h
  have hl := rowsC_len (l.take i)
  rw [List.length_take, Nat.min_eq_left hi] at hl
  rw [h, ← hl, List.drop_left]
theorem rowsC_put (l : List Sn) (i : Nat) (hi : i ≤ l.length) (s : Sn) : put (rowsC l) (i * 2) (rowC s) = rowsC (l.take i ++ [s] ++ l.drop i) := by
  unfold put
  rw [rowsC_take l i hi, rowsC_drop l i hi, rowsC_append, rowsC_append]
  simp [rowsC]

/-- A row of sessions in memory. -/
def RowsAt (w : World) (base : Nat) (v : Value) (l : List Sn) : Prop := w.ownsRow base 107 2 v l.length (rowsC l)
theorem RowsAt.mod {w w' : World} {base : Nat} {v : Value} {l : List Sn} {R : List Nat} (h : RowsAt w base v l) (m : Mod w w' R) (hR : ∀ k, v.ownBlock = some k → k ∉ R) : RowsAt w' base v l := own_mod h m hR
theorem RowsAt.shape {w : World} {base : Nat} {v : Value} {l : List Sn} (h : RowsAt w base v l) :
    (v = .slice none 0 0 ∧ l = []) ∨ ∃ g cap, v = .slice (some ⟨g, 0, none⟩) l.length cap ∧ base ≤ g ∧ l.length ≤ cap ∧ cap ≤ maxLen ∧
      ∀ i (hi : i < l.length), w.cell? ⟨g, i * 2, none⟩ = some (.int .i64 l[i].1) ∧ w.cell? ⟨g, i * 2 + 1, none⟩ = some (.int .i64 l[i].2) := by
  rcases Rw.own_cellN h with ⟨h1, h2, _⟩ | ⟨g, cap, h1, h2, h3, h4, h5, h6⟩
  · exact .inl ⟨h1, List.eq_nil_of_length_eq_zero h2⟩
  · refine .inr ⟨g, cap, h1, h2, h3, h4, fun i hi => ?_⟩
    obtain ⟨e0, e1⟩ := rowsC_get l i hi
    obtain ⟨q0, q0'⟩ := List.getElem?_eq_some_iff.1 e0
    obtain ⟨q1, q1'⟩ := List.getElem?_eq_some_iff.1 e1
    exact ⟨by rw [h6 _ q0, q0'], by rw [h6 _ q1, q1']⟩

def Up (l : List Sn) : Prop := ∀ i j (hi : i < l.length) (hj : j < l.length), i < j → l[i].1 < l[j].1
/-- Where a session stands, or is to stand. -/
def pos (l : List Sn) (id : Int) : Nat := l.countP (fun s => decide (s.1 < id))
def has (l : List Sn) (id : Int) : Bool := l.any (fun s => s.1 == id)
theorem pos_le (l : List Sn) (id : Int) : pos l id ≤ l.length := List.countP_le_length
theorem countP_cut {α : Type} (p : α → Bool) : ∀ (l : List α) (i : Nat), i ≤ l.length → (∀ t (ht : t < l.length), t < i → p l[t] = true) → (∀ t (ht : t < l.length), i ≤ t → p l[t] = false) → l.countP p = i
  | [], i, hi, _, _ => by simp at hi; simp [hi]
  | a :: r, 0, _, _, h2 => by
    rw [List.countP_eq_zero]
    intro x hx
    obtain ⟨t, ht, rfl⟩ := List.getElem_of_mem hx
    rw [h2 t ht (Nat.zero_le _)]; simp
  | a :: r, i + 1, hi, h1, h2 => by
    have ha : p a = true := h1 0 (by simp) (by omega)
    rw [List.countP_cons_of_pos ha, countP_cut p r i (by simpa using hi) (fun t ht hti => h1 (t + 1) (by simpa using ht) (by omega)) (fun t ht hti => h2 (t + 1) (by simpa using ht) (by omega))]
theorem pos_cut {l : List Sn} {id : Int} {i : Nat} (hi : i ≤ l.length) (h1 : ∀ t (ht : t < l.length), t < i → l[t].1 < id) (h2 : ∀ t (ht : t < l.length), i ≤ t → id ≤ l[t].1) : pos l id = i :=
  countP_cut _ l i hi (fun t ht hti => decide_eq_true (h1 t ht hti)) (fun t ht hti => decide_eq_false (by have := h2 t ht hti; omega))
theorem has_at {l : List Sn} {id : Int} {i : Nat} (hu : Up l) (h1 : ∀ t (ht : t < l.length), t < i → l[t].1 < id) (hi : i < l.length) (h2 : id ≤ l[i].1) : has l id = decide (l[i].1 = id) := by
  unfold has
  rw [Bool.eq_iff_iff, List.any_eq_true, decide_eq_true_iff]
  constructor
  · rintro ⟨s, hs, he⟩
    obtain ⟨t, ht, rfl⟩ := List.getElem_of_mem hs
    simp only [beq_iff_eq] at he
    rcases Nat.lt_trichotomy t i with h | h | h
    · have := h1 t ht h; omega
    · subst h; exact he
    · have := hu i t hi ht h; omega
  · intro he
    exact ⟨_, List.getElem_mem hi, by simpa using he⟩
theorem has_end {l : List Sn} {id : Int} (h1 : ∀ t (ht : t < l.length), l[t].1 < id) : has l id = false := by
  unfold has
  rw [List.any_eq_false]
  intro s hs
  obtain ⟨t, ht, rfl⟩ := List.getElem_of_mem hs
  have := h1 t ht
  simp; omega

def numB (n : Int) : Bool := decide (1 ≤ n ∧ n ≤ 549755813888)
theorem number_calls (n : Int) (w : World) : Calls Try.prog 53 #[.int .i64 n] w fun e w' => e = .returned (.bool (numB n)) ∧ w = w' := by
  by_cases h1 : 1 ≤ n
  · by_cases h2 : n ≤ 549755813888
    · have h : numB n = true := decide_eq_true ⟨h1, h2⟩
      rw [h]
      clear h
      go_enter Try.func53, Try.ntmps53
      go_wp2
      go_ret
      exact ⟨rfl, rfl⟩
    · have h : numB n = false := decide_eq_false (fun h => h2 h.2)
      rw [h]
      clear h
      go_enter Try.func53, Try.ntmps53
      go_wp2
      go_ret
      exact ⟨rfl, rfl⟩
  · have h : numB n = false := decide_eq_false (fun h => h1 h.1)
    rw [h]
    clear h
    go_enter Try.func53, Try.ntmps53
    go_wp2
    go_ret
    exact ⟨rfl, rfl⟩

def cmpI (a b : Int) : Int := if a < b then -1 else if b < a then 1 else 0
theorem isNaN_calls (x : Int) (w : World) : Calls Try.prog 80 #[.int .i64 x] w fun e w' => e = .returned (.bool false) ∧ w = w' := by
  go_enter Try.func80, Try.ntmps80
  go_wp2
  go_ret
  exact ⟨by simp, rfl⟩
theorem compare_calls (a b : Int) (w : World) : Calls Try.prog 72 #[.int .i64 a, .int .i64 b] w fun e w' => e = .returned (.int .i64 (cmpI a b)) ∧ w = w' := by
  have hna := fun w => isNaN_calls a w
  have hnb := fun w => isNaN_calls b w
  by_cases h1 : a < b
  · have h : cmpI a b = -1 := by unfold cmpI; rw [if_pos h1]
    rw [h]
    clear h
    go_enter Try.func72, Try.ntmps72
    go_wp2
    go_ret
    exact ⟨rfl, rfl⟩
  · by_cases h2 : b < a
    · have h : cmpI a b = 1 := by unfold cmpI; rw [if_neg h1, if_pos h2]
      rw [h]
      clear h
      go_enter Try.func72, Try.ntmps72
      go_wp2
      go_ret
      exact ⟨rfl, rfl⟩
    · have h : cmpI a b = 0 := by unfold cmpI; rw [if_neg h1, if_neg h2]
      rw [h]
      clear h
      go_enter Try.func72, Try.ntmps72
      go_wp2
      go_ret
      exact ⟨rfl, rfl⟩
theorem cmp_calls (a b id : Int) (w : World) : Calls Try.prog 71 #[.agg #[.int .i64 a, .int .i64 b], .int .i64 id] w fun e w' => e = .returned (.int .i64 (cmpI a id)) ∧ Mod w w' [] := by
  have C := Lib.hid (fun w => compare_calls a id w)
  have HM := Lib.hid ((Mod.refl w []).alloc (.cells #[.int .i64 a, .int .i64 b] 107))
  generalize cmpI a id = c at *
  go_enter Try.func71, Try.ntmps71
  go_wp2_with fail
  (with_reducible refine (C.out _).mono ?_)
  rintro e w1 ⟨rfl, rfl⟩
  go_wp2_with fail
  go_ret
  exact ⟨rfl, HM.out⟩
end Go.Proofs.Ytcbafomhifdgpaa.Ss
