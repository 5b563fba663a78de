/- Items in their order, and a heap of them, plain. -/
import Derived.Test.YtgmenlfhkhdbdaaProg
import Derived.WalkKit
namespace Go.Proofs.Ytgmenlfhkhdbdaa.Ag
set_option linter.unusedSimpArgs false
set_option linter.unusedVariables false

/-- An item: its time, its ID, what it is. -/
abbrev It := Int × Int × Int
def z0 : It := (0, 0, 0)
def soon (a b : It) : Bool := decide (a.1 < b.1 ∨ a.1 = b.1 ∧ a.2.1 < b.2.1)
def le (a b : It) : Prop := soon b a = false
theorem soon_iff {a b : It} : soon a b = true ↔ (a.1 < b.1 ∨ a.1 = b.1 ∧ a.2.1 < b.2.1) := by unfold soon; exact decide_eq_true_iff
theorem le_iff {a b : It} : le a b ↔ ¬(b.1 < a.1 ∨ b.1 = a.1 ∧ b.2.1 < a.2.1) := by unfold le soon; exact decide_eq_false_iff_not
theorem le_trans {a b c : It} (h1 : le a b) (h2 : le b c) : le a c := by rw [le_iff] at *; omega
theorem le_refl (a : It) : le a a := by rw [le_iff]; omega
theorem soon_le {a b : It} (h : soon a b = true) : le a b := by rw [soon_iff] at h; rw [le_iff]; omega
theorem le_of_not {a b : It} (h : soon a b = false) : le b a := h

def gt (l : List It) (k : Nat) : It := l.getD k z0
theorem gt_eq {l : List It} {k : Nat} (h : k < l.length) : gt l k = l[k] := by unfold gt; rw [List.getD_eq_getElem?_getD, List.getElem?_eq_getElem h]; rfl
def sw (l : List It) (i j : Nat) : List It := (l.set i (gt l j)).set j (gt l i)
theorem sw_len (l : List It) (i j : Nat) : (sw l i j).length = l.length := by unfold sw; simp
theorem gt_sw {l : List It} {i j : Nat} (hi : i < l.length) (hj : j < l.length) (k : Nat) : gt (sw l i j) k = if k = j then gt l i else if k = i then gt l j else gt l k := by
  unfold sw
  unfold gt
  simp only [List.getD_eq_getElem?_getD]
  by_cases h1 : k = j
  · rw [if_pos h1, h1, List.getElem?_set_self (by simpa using hj)]; rfl
  · rw [if_neg h1, List.getElem?_set_ne (by omega)]
    by_cases h2 : k = i
    · rw [if_pos h2, h2, List.getElem?_set_self (by simpa using hi)]; rfl
    · rw [if_neg h2, List.getElem?_set_ne (by omega)]
theorem sw_perm {l : List It} {i j : Nat} (hi : i < l.length) (hj : j < l.length) : (sw l i j).Perm l := by
  have h := Array.swap_perm (xs := l.toArray) (i := i) (j := j) (by simpa using hi) (by simpa using hj)
  rw [List.swap_toArray, Array.perm_iff_toList_perm] at h
  unfold sw
  rw [gt_eq hi, gt_eq hj]
  exact h

/-- The first n stand as a heap, but perhaps for the edge that ends at x. -/
def HeapX (l : List It) (n x : Nat) : Prop := ∀ k, 1 ≤ k → k < n → k ≠ x → le (gt l ((k - 1) / 2)) (gt l k)
def IsHeap (l : List It) (n : Nat) : Prop := ∀ k, 1 ≤ k → k < n → le (gt l ((k - 1) / 2)) (gt l k)
/-- What up begins with: all is well but for the edge into j; the children of j stand behind its parent. -/
structure UpH (l : List It) (n j : Nat) : Prop where
  e1 : HeapX l n j
  e2 : ∀ k, 1 ≤ k → k < n → (k - 1) / 2 = j → 1 ≤ j → le (gt l ((j - 1) / 2)) (gt l k)
theorem UpH.done {l : List It} {n j : Nat} (h : UpH l n j) (hj : 1 ≤ j → j < n → le (gt l ((j - 1) / 2)) (gt l j)) : IsHeap l n := by
  intro k h1 h2
  by_cases e : k = j
  · subst e; exact hj h1 h2
  · exact h.e1 k h1 h2 e
theorem UpH.step {l : List It} {n j : Nat} (h : UpH l n j) (hn : n ≤ l.length) (hj : j < n) (h1 : 1 ≤ j) (hs : soon (gt l j) (gt l ((j - 1) / 2)) = true) : UpH (sw l ((j - 1) / 2) j) n ((j - 1) / 2) := by
  have hij : (j - 1) / 2 < j := by omega
  have G := gt_sw (l := l) (i := (j - 1) / 2) (j := j) (by omega) (by omega)
  generalize hi : (j - 1) / 2 = i at *
  refine ⟨fun k k1 kn kx => ?_, fun k k1 kn kp i1 => ?_⟩
  · rw [G, G]
    by_cases kj : k = j
    · subst kj
      rw [hi, if_neg (by omega), if_pos rfl, if_pos rfl]
      exact soon_le hs
    · rw [if_neg kj, if_neg kx]
      by_cases kpj : (k - 1) / 2 = j
      · rw [if_pos kpj]
        have := h.e2 k k1 kn kpj h1
        rw [hi] at this
        exact this
      · rw [if_neg kpj]
        by_cases kpi : (k - 1) / 2 = i
        · rw [if_pos kpi]
          have := h.e1 k k1 kn kj
          rw [kpi] at this
          exact le_trans (soon_le hs) this
        · rw [if_neg kpi]
          exact h.e1 k k1 kn kj
  · rw [G, G, if_neg (by omega), if_neg (by omega)]
    have hi2 := h.e1 i i1 (by omega) (by omega)
    by_cases kj : k = j
    · rw [if_pos kj]
      exact hi2
    · rw [if_neg kj, if_neg (by omega)]
      have := h.e1 k k1 kn kj
      rw [kp] at this
      exact le_trans hi2 this
theorem UpH.push {l : List It} (h : IsHeap l l.length) (x : It) : UpH (l ++ [x]) (l.length + 1) l.length := by
  have G : ∀ k, k < l.length → gt (l ++ [x]) k = gt l k := fun k hk => by
    rw [gt_eq hk, gt_eq (by rw [List.length_append]; omega), List.getElem_append_left hk]
  refine ⟨fun k k1 kn kx => ?_, fun k k1 kn kp _ => by omega⟩
  rw [G _ (by omega), G _ (by omega)]
  exact h k k1 (by omega)

/-- What down keeps: all edges but those from i (and, as long as nothing has moved, that into i0). -/
structure DnH (l : List It) (n i i0 : Nat) : Prop where
  e1 : ∀ k, 1 ≤ k → k < n → (k - 1) / 2 ≠ i → (i = i0 → k ≠ i0) → le (gt l ((k - 1) / 2)) (gt l k)
  e2 : ∀ k, 1 ≤ k → k < n → (k - 1) / 2 = i → 1 ≤ i → le (gt l ((i - 1) / 2)) (gt l k)
theorem DnH.done {l : List It} {n i i0 : Nat} (h : DnH l n i i0) (hc : ∀ k, 1 ≤ k → k < n → (k - 1) / 2 = i → le (gt l i) (gt l k)) : HeapX l n (if i = i0 then i0 else 0) := by
  intro k k1 kn kx
  by_cases kp : (k - 1) / 2 = i
  · rw [kp]; exact hc k k1 kn kp
  · exact h.e1 k k1 kn kp (fun e => by rw [if_pos e] at kx; exact kx)
theorem DnH.step {l : List It} {n i i0 j : Nat} (h : DnH l n i i0) (hn : n ≤ l.length) (hj : j < n) (hji : (j - 1) / 2 = i) (hj1 : 1 ≤ j) (hs : soon (gt l j) (gt l i) = true) (hm : ∀ k, 1 ≤ k → k < n → (k - 1) / 2 = i → le (gt l j) (gt l k)) (h0 : i0 ≤ i) : DnH (sw l i j) n j i0 := by
  have hij : i < j := by omega
  have G := gt_sw (l := l) (i := i) (j := j) (by omega) (by omega)
  refine ⟨fun k k1 kn kp _ => ?_, fun k k1 kn kp j1 => ?_⟩
  · rw [G, G, if_neg kp]
    by_cases kj : k = j
    · rw [if_pos kj]
      have e : (k - 1) / 2 = i := by rw [kj]; exact hji
      rw [if_pos e]
      exact soon_le hs
    · rw [if_neg kj]
      by_cases kpi : (k - 1) / 2 = i
      · rw [if_pos kpi, if_neg (by omega)]
        exact hm k k1 kn kpi
      · rw [if_neg kpi]
        by_cases ki : k = i
        · rw [if_pos ki]
          have := h.e2 j (by omega) hj hji (by omega)
          rw [ki]
          exact this
        · rw [if_neg ki]
          exact h.e1 k k1 kn kpi (fun e => by omega)
  · rw [hji, G, G, if_neg (by omega), if_pos rfl, if_neg (by omega), if_neg (by omega)]
    have := h.e1 k k1 kn (by omega) (fun e => by omega)
    rw [kp] at this
    exact this
/-- Down begins: where one at i0 has been written over in a heap. -/
theorem DnH.start {l : List It} {n i0 : Nat} {m : List It} (h : IsHeap m n) (hm : ∀ k, k < n → k ≠ i0 → gt l k = gt m k) (hi : i0 < n) : DnH l n i0 i0 := by
  refine ⟨fun k k1 kn kp kx => ?_, fun k k1 kn kp i1 => ?_⟩
  · rw [hm k kn (kx rfl), hm _ (by omega) kp]
    exact h k k1 kn
  · rw [hm k kn (by omega), hm _ (by omega) (by omega)]
    have e1 := h k k1 kn
    have e2 := h i0 i1 hi
    rw [kp] at e1
    exact le_trans e2 e1
theorem HeapX.zero {l : List It} {n : Nat} (h : HeapX l n 0) : IsHeap l n := fun k k1 kn => h k k1 kn (by omega)
theorem DnH.toUp {l : List It} {n i0 : Nat} (h : DnH l n i0 i0) (hx : HeapX l n i0) : UpH l n i0 := ⟨hx, fun k k1 kn kp j1 => h.e2 k k1 kn kp j1⟩
/-- The first of a heap stands ahead of all. -/
theorem heap_first {l : List It} {n : Nat} (h : IsHeap l n) : ∀ k, k < n → le (gt l 0) (gt l k) := by
  intro k
  induction k using Nat.strongRecOn with
  | _ k ih =>
    intro hk
    by_cases h0 : k = 0
    · subst h0; exact le_refl _
    · exact le_trans (ih ((k - 1) / 2) (by omega) (by omega)) (h k (by omega) hk)
theorem heap_mono {l m : List It} {n k : Nat} (h : IsHeap l n) (hk : k ≤ n) (hm : ∀ t, t < k → gt m t = gt l t) : IsHeap m k := by
  intro t t1 tk
  rw [hm t tk, hm _ (by omega)]
  exact h t t1 (by omega)
end Go.Proofs.Ytgmenlfhkhdbdaa.Ag
