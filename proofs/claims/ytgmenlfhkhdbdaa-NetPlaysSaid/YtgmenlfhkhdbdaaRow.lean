/- Rows of some cells each, owned; what stays where a row grows. -/
import Derived.Test.YtgmenlfhkhdbdaaMem
import Derived.Deep.AppendLies
import Derived.Deep.DrawnRows
namespace Go.Proofs.Ytgmenlfhkhdbdaa.Rw
open Go.RowKit Mem
set_option linter.unusedSimpArgs false
set_option linter.unusedVariables false

theorem cell_lt {w : World} {p : Addr} {v : Value} (h : w.cell? p = some v) : p.block < w.heap.size := by
  by_cases hg : p.block < w.heap.size
  · exact hg
  · exfalso
    simp [World.cell?, Array.getElem?_eq_none (by omega : w.heap.size ≤ p.block)] at h
theorem own_cellN {w : World} {base : Nat} {e : TypeId} {size : Nat} {v : Value} {n : Nat} {xs : List Value} (h : w.ownsRow base e size v n xs) :
    (v = .slice none 0 0 ∧ n = 0 ∧ xs = []) ∨ ∃ g cap, v = .slice (some ⟨g, 0, none⟩) n cap ∧ base ≤ g ∧ n ≤ cap ∧ cap ≤ maxLen ∧ xs.length = n * size ∧ ∀ i (hi : i < xs.length), w.cell? ⟨g, i, none⟩ = some xs[i] := by
  obtain ⟨h0, ⟨rfl, h1⟩ | ⟨g, cap, cur, rfl, hg, hb, h2, h3, h4, h5⟩⟩ := h
  · left
    subst h1
    exact ⟨rfl, rfl, List.eq_nil_of_length_eq_zero (by omega)⟩
  · right
    refine ⟨g, cap, rfl, hg, h2, h3, h0, fun i hi => ?_⟩
    have hb' : Blk w g cur e := hb
    rw [hb'.cell]
    subst h5
    rw [List.getElem_take, Array.getElem_toList, Array.getElem?_eq_getElem]
theorem own_slice {w : World} {base : Nat} {e : TypeId} {size : Nat} {v : Value} {n : Nat} {xs : List Value} (h : w.ownsRow base e size v n xs) : ∃ a c, v = .slice a n c := by
  rcases own_cellN h with ⟨rfl, rfl, _⟩ | ⟨g, cap, rfl, _⟩ <;> exact ⟨_, _, rfl⟩
theorem own_lt {w : World} {base : Nat} {e : TypeId} {size : Nat} {v : Value} {n : Nat} {xs : List Value} (h : w.ownsRow base e size v n xs) : ∀ k, v.ownBlock = some k → k < w.heap.size := by
  obtain ⟨h0, ⟨rfl, h1⟩ | ⟨g, cap, cur, rfl, hg, hb, h2, h3, h4, h5⟩⟩ := h
  · intro k hk; cases hk
  · intro k hk
    have hb' : Blk w g cur e := hb
    have := hb'.lt
    simp [Value.ownBlock] at hk
    omega
theorem blk_grown {w w' : World} {g : Nat} {cs : Array Value} {t : TypeId} {row : Option Nat} (h : Blk w g cs t) (hg : w.grownBy w' row) (hne : some g ≠ row) : Blk w' g cs t := by
  have hl := h.lt
  unfold Blk at *; rw [hg.block g hl hne]; exact h
theorem keepG {a b : World} {row : Option Nat} (hg : a.grownBy b row) {p : Addr} {u : Value} (h : a.cell? p = some u) (hne : some p.block ≠ row) : b.cell? p = some u := (hg.cell_far p (cell_lt h) hne).trans h
theorem flat_get {n : Nat} : ∀ (rs : List (List Value)) (i c : Nat), (∀ r ∈ rs, r.length = n) → (hi : i < rs.length) → c < n → rs.flatten[i * n + c]? = rs[i][c]?
  | r :: rs, 0, c, h, _, hc => by
    have hr := h r (by simp)
    rw [List.flatten_cons, Nat.zero_mul, Nat.zero_add, List.getElem?_append_left (by omega)]; rfl
  | r :: rs, i + 1, c, h, hi, hc => by
    have hr := h r (by simp)
    have ih := flat_get rs i c (fun x hx => h x (by simp [hx])) (by simpa using hi) hc
    rw [List.flatten_cons, List.getElem?_append_right (by rw [hr, Nat.add_mul, Nat.one_mul]; omega)]
    rw [show (i + 1) * n + c - r.length = i * n + c by rw [hr, Nat.add_mul, Nat.one_mul]; omega, ih]
    rfl
theorem flat_len {n : Nat} (rs : List (List Value)) (h : ∀ r ∈ rs, r.length = n) : rs.flatten.length = rs.length * n := by
  induction rs with
  | nil => simp
  | cons r rs ih => rw [List.flatten_cons, List.length_append, h r (by simp), ih (fun x hx => h x (by simp [hx])), List.length_cons, Nat.add_mul, Nat.one_mul]; omega
/-- The cells of an owned row of rows. -/
theorem own_rows {w : World} {base : Nat} {e : TypeId} {n : Nat} {v : Value} {rs : List (List Value)} (h : w.ownsRow base e n v rs.length rs.flatten) (hr : ∀ r ∈ rs, r.length = n) :
    (v = .slice none 0 0 ∧ rs = []) ∨ ∃ g cap, v = .slice (some ⟨g, 0, none⟩) rs.length cap ∧ base ≤ g ∧ rs.length ≤ cap ∧ cap ≤ maxLen ∧ ∀ i (hi : i < rs.length) c, c < n → w.cell? ⟨g, i * n + c, none⟩ = rs[i][c]? := by
  rcases own_cellN h with ⟨h1, h2, _⟩ | ⟨g, cap, h1, h2, h3, h4, h5, h6⟩
  · exact .inl ⟨h1, List.eq_nil_of_length_eq_zero h2⟩
  · refine .inr ⟨g, cap, h1, h2, h3, h4, fun i hi c hc => ?_⟩
    have hlt : i * n + c < rs.flatten.length := by
      rw [h5]
      have : (i + 1) * n ≤ rs.length * n := Nat.mul_le_mul_right _ (by omega)
      rw [Nat.add_mul, Nat.one_mul] at this
      omega
    rw [h6 _ hlt, ← flat_get rs i c hr hi hc, List.getElem?_eq_getElem hlt]
end Go.Proofs.Ytgmenlfhkhdbdaa.Rw
